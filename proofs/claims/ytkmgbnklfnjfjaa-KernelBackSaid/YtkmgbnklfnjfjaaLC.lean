import Derived.Test.YtkmgbnklfnjfjaaLB
import Derived.Test.YtkmgbnklfnjfjaaLD
/-! KernelBack (f6): the walk. UNDER WAY. -/
namespace Go.Proofs.Ytkmgbnklfnjfjaa.Ker
open Go.RowKit Go.Maps

theorem do_as (B kb : Nat) (a : A) (gd : Good a) (hca : 0 ≤ a.calls ∧ a.calls < 100000) (d x y : Int) (s : S) (hs : doF a (d, x, y) = s) :
    ∀ (g : G) (w : World), KRep B kb g a w → Calls Try.prog 19 #[ptr kb, .agg #[.int .i64 d, .int .i64 x, .int .i64 y, .int .i64 0, .int .i64 0]] w (GivesS B kb w s) := fun g w h => by
  rw [← hs]
  exact do_det B kb g a w h gd hca (d, x, y) 0 0
def FillRel (w : World) (l : List C3) (i : Value) (wr : World) : Prop := ∃ (j : Nat) (g : G), j ≤ l.length ∧ i = .int .i64 j ∧ Below w.heap.size w wr ∧ KRep w.heap.size w.heap.size g (afterF A0 (l.take j)) wr

set_option maxHeartbeats 4000000 in
set_option maxRecDepth 100000 in
theorem back_fill (w : World) (v : Value) (l : List C3) (h : callsAt w v l) (hn : l.length ≤ 60) (d x : Int) (hd : -5 ≤ d ∧ d ≤ -1) :
    Calls Try.prog 6 #[v, .int .i64 d, .int .i64 x] w fun e w' => e = .returned (.bool true) ∧ Below w.heap.size w w' := by
  obtain ⟨va, vc, rfl, hc⟩ := h
  have HC := Lib.hid hc
  have CN := Lib.hid (new_any w)
  have hl : decide ((60 : Int) < (l.length : Int)) = false := decide_eq_false (by omega)
  have hd1 : decide (d < -5) = false := decide_eq_false (by omega)
  have hd2 : decide (-1 < d) = false := decide_eq_false (by omega)
  clear hc
  go_enter Try.func6, Try.ntmps6
  go_wp2_with (go_at_call 17; (with_reducible refine CN.out.mono ?_); rintro e w1 ⟨rfl, hb, hk⟩; have HB := Lib.hid hb; have HK := Lib.hid hk; clear hb hk)
  go_loopw [8] (fun i wr => FillRel w l i wr) (fun i _ => l.length - (intOf i).toNat)
  case atStart => exact ⟨0, G0 w.heap.size, Nat.zero_le _, rfl, HB.out, HK.out⟩
  case round =>
    obtain ⟨j, g, hj, rfl, hb, hk⟩ := hrel
    have gd : Good (afterF A0 (l.take j)) := good_after good0 _
    have hcl : (afterF A0 (l.take j)).calls = j := by rw [after_calls]; simp [A0]; omega
    by_cases hlt : j < l.length
    · obtain ⟨gb, o, c, cc, cd, rfl, hg, hlc, c0, c1, c2, c3, c4⟩ := HC.out j hlt
      have z0 : wr.cell? ⟨gb, o + j * 5, none⟩ = some (.int .i64 c.1) := (hb.cell (p := ⟨gb, _, none⟩) hg).trans c0
      have z1 : wr.cell? ⟨gb, o + j * 5 + 1, none⟩ = some (.int .i64 c.2.1) := (hb.cell (p := ⟨gb, _, none⟩) hg).trans c1
      have z2 : wr.cell? ⟨gb, o + j * 5 + 2, none⟩ = some (.int .i64 c.2.2) := (hb.cell (p := ⟨gb, _, none⟩) hg).trans c2
      have z3 : wr.cell? ⟨gb, o + j * 5 + 3, none⟩ = some (.int .i64 cc) := (hb.cell (p := ⟨gb, _, none⟩) hg).trans c3
      have z4 : wr.cell? ⟨gb, o + j * 5 + 4, none⟩ = some (.int .i64 cd) := (hb.cell (p := ⟨gb, _, none⟩) hg).trans c4
      have hdd : decide ((j : Int) < (l.length : Int)) = true := by simpa using hlt
      have C19 := Lib.hid (do_det w.heap.size w.heap.size g _ _ hk gd (by omega) c cc cd)
      have HBR := Lib.hid hb
      have HLC := Lib.hid hlc
      clear hb hk hg c0 c1 c2 c3 c4 hlc gd hcl
      go_wp2_with (go_at_call 19; (with_reducible refine C19.out.mono ?_); rintro e w3 ⟨rfl, hb3, g3, h3⟩; have HB3 := Lib.hid hb3; have H3 := Lib.hid h3; clear hb3 h3)
      go_roundw
      case rel =>
        have ht : l.take (j + 1) = l.take j ++ [c] := by
          have hc0 := HLC.out
          rw [List.getElem?_eq_getElem hlt] at hc0
          rw [List.take_succ_eq_append_getElem hlt]
          simp at hc0
          rw [hc0]
        refine ⟨j + 1, g3, by omega, by go_num, HBR.out.trans HB3.out.low, ?_⟩
        rw [ht, afterF_append]
        exact H3.out
      case measure => simp [intOf]; omega
    · have hjn : j = l.length := by omega
      subst hjn
      rw [List.take_length] at hk gd hcl
      have HBR := Lib.hid hb
      have HK1 := Lib.hid hk
      have GD := Lib.hid gd
      have C18 := Lib.hid (run_det _ _ _ _ _ hk gd)
      have hdv : d ∈ devs := by simp [devs]; omega
      have hql := gd.qlen (i := d) (.inr hdv)
      have HIN := Lib.hid (show ∀ p ∈ (afterF A0 l).q d, p ∈ (afterF A0 l).pids from fun p hp => (gd.qin d (.inr hdv) p hp).1)
      have HCL := Lib.hid hcl
      obtain ⟨r, hr⟩ : ∃ r, r = runF (afterF A0 l) := ⟨_, rfl⟩
      rw [← hr] at C18
      have HR := Lib.hid hr
      clear hb hk gd hcl hr
      by_cases hr0 : r = 0
      · have hrb : (r == 0) = true := by simp [hr0]
        have HR0 := Lib.hid hr0
        clear hr0
        go_wp2_with (first | (go_at_call 18; (with_reducible refine C18.out.mono ?_); rintro e w2 ⟨rfl, hb2⟩; have BW := Lib.hid (HBR.out.trans (hb2.mono HBR.out.size)); have K2 := Lib.hid (HK1.out.below hb2); have Q := Lib.hid (queue_some _ _ _ _ _ K2.out d (.inr hdv) (by omega) HIN.out); clear hb2) | (go_at_call 21; (with_reducible refine Q.out.mono ?_); rintro e w3 ⟨v3, rfl, hb3, ho3⟩; have BW := Lib.hid (BW.out.trans (hb3.mono BW.out.size)); (obtain ⟨qa, qc, rfl⟩ := own_form ho3); clear hb3 ho3) | (go_at_call 16; (with_reducible refine (awake_any _).mono ?_); rintro e w4 ⟨rfl, hb4⟩; have BW := Lib.hid (BW.out.trans (hb4.mono BW.out.size)); clear hb4))
        go_ret
        exact ⟨rfl, BW.out⟩
      · have hrb : (r == 0) = false := by simp [hr0]
        have HR0 := Lib.hid hr0
        clear hr0
        by_cases hq : (afterF A0 l).q d = []
        · have hqd : decide ((0 : Int) < (((afterF A0 l).q d).length : Int)) = false := by rw [hq]; rfl
          have HQ := Lib.hid hq
          clear hq
          have hb1 := back1 (HR.out.symm) HR0.out
          by_cases hm : (afterF A0 l).made = 200
          · rw [if_pos hm] at hb1
            have D1 := Lib.hid (do_as w.heap.size w.heap.size _ GD.out (by have := HCL.out; omega) 11 3 0 _ hb1)
            clear hb1 hm
            go_wp2_with (first | (go_at_call 18; (with_reducible refine C18.out.mono ?_); rintro e w2 ⟨rfl, hb2⟩; have BW := Lib.hid (HBR.out.trans (hb2.mono HBR.out.size)); have KC := Lib.hid (HK1.out.below hb2); have Q := Lib.hid (queue_some _ _ _ _ _ KC.out d (.inr hdv) (by omega) HIN.out); clear hb2) | (go_at_call 21; (with_reducible refine Q.out.mono ?_); rintro e w3 ⟨v3, rfl, hb3, ho3⟩; have BW := Lib.hid (BW.out.trans (hb3.mono BW.out.size)); have KC := Lib.hid (KC.out.below hb3); (obtain ⟨qa, qc, rfl⟩ := own_form ho3); clear hb3 ho3) | (go_at_call 23; (with_reducible refine (call_any _ _ _ _).mono ?_); rintro e w' ⟨rfl, hb⟩; have BW := Lib.hid (BW.out.trans (hb.mono BW.out.size)); have KC := Lib.hid (KC.out.below hb); clear hb) | (go_at_call 19; (with_reducible refine (D1.out _ _ KC.out).mono ?_); rintro e w' ⟨rfl, hb, g', h'⟩; have BW := Lib.hid (BW.out.trans hb.low); have KC := Lib.hid h'; clear hb h') | (go_at_call 16; (with_reducible refine (awake_any _).mono ?_); rintro e w4 ⟨rfl, hb4⟩; have BW := Lib.hid (BW.out.trans (hb4.mono BW.out.size)); clear hb4))
            all_goals (go_ret; exact ⟨rfl, BW.out⟩)
          · rw [if_neg hm] at hb1
            have hrt : r ∈ (afterF A0 l).tids := by
              have := runF_in GD.out
              rw [← HR.out] at this
              exact this.resolve_left HR0.out
            have hr1 := GD.out.trng r hrt
            have hdt : d ∉ (afterF A0 l).tids := fun h => by have := GD.out.trng d h; omega
            have hw : ((afterF A0 l).tk r).waiting = false := by
              have := runF_is GD.out
              rw [← HR.out] at this
              rcases this with h | h
              · exact absurd h.1 HR0.out
              · have := h.2.1
                unfold runnable at this
                simp at this
                exact this.2
            have g1 : Good (packA (bump (afterF A0 l)) r 3) := by have := good_doF GD.out (11, 3, 0); rw [hb1] at this; exact this
            have hb2 := back2 (a := afterF A0 l) (r := r) (d := d) ((runF_same (a := afterF A0 l) (b := packA (bump (afterF A0 l)) r 3) rfl rfl).trans HR.out.symm) (by omega) hdv
            have g2 : Good (backA2 (afterF A0 l) r d) := by have := good_doF g1 (3, (afterF A0 l).made + 1, d); rw [hb2] at this; exact this
            have hb3 := back3 (a := afterF A0 l) (r := r) (d := d) (x := x) ((runF_same (a := afterF A0 l) (b := backA2 (afterF A0 l) r d) rfl (backA2_tk hdt)).trans HR.out.symm) (by omega) hdv hdt hrt HQ.out
            have g3 : Good (backA3 (afterF A0 l) r d x) := by have := good_doF g2 (12, d, x); rw [hb3] at this; exact this
            have hr3 : runF (backA3 (afterF A0 l) r d x) = r := (runF_same (a := afterF A0 l) (b := backA3 (afterF A0 l) r d x) rfl (backA3_tk hdt hw)).trans HR.out.symm
            have hb6 := back6 (a := afterF A0 l) (r := r) (d := d) (x := x) hr3 (by omega) hdv HQ.out
            have g4 : Good (bump (backA3 (afterF A0 l) r d x)) := by have := good_doF g3 (12, d, x); rw [hb6] at this; exact this
            have hb7 := back7 (a := afterF A0 l) (r := r) (d := d) (x := x) hr3 (by omega)
            have hc0 := HCL.out
            have D1 := Lib.hid (do_as w.heap.size w.heap.size _ GD.out (by omega) 11 3 0 _ hb1)
            have D2 := Lib.hid (do_as w.heap.size w.heap.size _ g1 (by show 0 ≤ (afterF A0 l).calls + 1 ∧ (afterF A0 l).calls + 1 < 100000; omega) _ _ _ _ hb2)
            have D3 := Lib.hid (do_as w.heap.size w.heap.size _ g2 (by show 0 ≤ (afterF A0 l).calls + 1 + 1 ∧ (afterF A0 l).calls + 1 + 1 < 100000; omega) _ _ _ _ hb3)
            have D6 := Lib.hid (do_as w.heap.size w.heap.size _ g3 (by show 0 ≤ (afterF A0 l).calls + 1 + 1 + 1 ∧ (afterF A0 l).calls + 1 + 1 + 1 < 100000; omega) _ _ _ _ hb6)
            have D7 := Lib.hid (do_as w.heap.size w.heap.size _ g4 (by show 0 ≤ (afterF A0 l).calls + 1 + 1 + 1 + 1 ∧ (afterF A0 l).calls + 1 + 1 + 1 + 1 < 100000; omega) _ _ _ _ hb7)
            have rc3 : ∀ (g : G) (w' : World), KRep w.heap.size w.heap.size g (backA3 (afterF A0 l) r d x) w' → Calls Try.prog 18 #[ptr w.heap.size] w' fun e w'' => e = .returned (.int .i64 r) ∧ Below w'.heap.size w' w'' := fun g w' h => by
              have := run_det _ _ g _ w' h g3
              rw [hr3] at this
              exact this
            have p3 : ∀ (g : G) (w' : World), KRep w.heap.size w.heap.size g (backA3 (afterF A0 l) r d x) w' → Calls Try.prog 20 #[ptr w.heap.size, .int .i64 ((afterF A0 l).made + 1)] w' fun e w'' => e = .returned (.tuple #[.agg #[.int .i64 ((afterF A0 l).made + 1), .int .i64 3, .int .i64 x, .int .i64 r, .int .i64 r, .int .i64 d, .int .i64 0], .int .i64 0]) ∧ Below w'.heap.size w' w'' := fun g w' h => by
              have := getp_some _ _ g _ w' h ((afterF A0 l).made + 1) (by simp [backA3, backA2, moveA, resA, dropA, bump, packA])
              unfold pagg at this
              rw [back_pk] at this
              exact this
            have q3 : ∀ (g : G) (w' : World), KRep w.heap.size w.heap.size g (backA3 (afterF A0 l) r d x) w' → Calls Try.prog 21 #[ptr w.heap.size, .int .i64 r] w' fun e w'' => ∃ gq cq, e = .returned (.tuple #[.slice (some ⟨gq, 0, none⟩) (((afterF A0 l).q r).length + 1) cq, .int .i64 0]) ∧ Below w'.heap.size w' w'' ∧ w''.cell? ⟨gq, ((afterF A0 l).q r).length, none⟩ = some (.int .i64 ((afterF A0 l).made + 1)) := fun g w' h => by
              have ho : A.owner (backA3 (afterF A0 l) r d x) r := .inl hrt
              have := queue_some _ _ g _ w' h r ho (by have := g3.qlen ho; omega) (fun p hp => (g3.qin r ho p hp).1)
              rw [back_q (by omega)] at this
              refine this.mono ?_
              rintro e w'' ⟨v', rfl, hb, hw⟩
              obtain ⟨gq, cap, rfl, _, _, _, _, _, _, _, hcell⟩ := own_cell hw (by simp)
              refine ⟨gq, cap, by simp, hb, ?_⟩
              have := hcell ((afterF A0 l).q r).length (by simp)
              rw [this]
              simp
            have RC3 := Lib.hid rc3
            have P3 := Lib.hid p3
            have Q3 := Lib.hid q3
            have hql3 := GD.out.qlen (i := r) (.inl hrt)
            clear rc3 p3 q3 hb1 hb2 hb3 hb6 hb7 hr3 g1 g2 g3 g4 hw hdt hm
            go_wp2_with (first | (go_at_call 18; (with_reducible refine C18.out.mono ?_); rintro e w2 ⟨rfl, hb2⟩; have BW := Lib.hid (HBR.out.trans (hb2.mono HBR.out.size)); have KC := Lib.hid (HK1.out.below hb2); have Q := Lib.hid (queue_some _ _ _ _ _ KC.out d (.inr hdv) (by omega) HIN.out); clear hb2) | (go_at_call 18; (with_reducible refine (RC3.out _ _ KC.out).mono ?_); rintro e w2 ⟨rfl, hb2⟩; have BW := Lib.hid (BW.out.trans (hb2.mono BW.out.size)); have KC := Lib.hid (KC.out.below hb2); clear hb2) | (go_at_call 21; (with_reducible refine Q.out.mono ?_); rintro e w3 ⟨v3, rfl, hb3, ho3⟩; have BW := Lib.hid (BW.out.trans (hb3.mono BW.out.size)); have KC := Lib.hid (KC.out.below hb3); (obtain ⟨qa, qc, rfl⟩ := own_form ho3); clear hb3 ho3) | (go_at_call 21; (with_reducible refine (Q3.out _ _ KC.out).mono ?_); rintro e w7 ⟨gq, cq, rfl, hb, hcq⟩; have y2 := hb.cell (p := ⟨w6.heap.size, 2, none⟩) (by simp); have y4 := hb.cell (p := ⟨w6.heap.size, 4, none⟩) (by simp); have y5 := hb.cell (p := ⟨w6.heap.size, 5, none⟩) (by simp); have BW := Lib.hid (BW.out.trans (((Below.refl w6.heap.size w6).alloc (Nat.le_refl _) _).trans (hb.mono (by simp)) |>.mono BW.out.size)); have KC := Lib.hid (KC.out.below hb); clear hb) | (go_at_call 20; (with_reducible refine (P3.out _ _ KC.out).mono ?_); rintro e w6 ⟨rfl, hb⟩; have BW := Lib.hid (BW.out.trans (hb.mono BW.out.size)); have KC := Lib.hid ((KC.out.below hb).keep (w' := w6.alloc (.cells #[.int .i64 ((afterF A0 l).made + 1), .int .i64 3, .int .i64 x, .int .i64 r, .int .i64 r, .int .i64 d, .int .i64 0] 44)) (fun k hk => Below.heap_alloc w6 _ _ hk)); clear hb) | (go_at_call 23; (with_reducible refine (call_any _ _ _ _).mono ?_); rintro e w' ⟨rfl, hb⟩; have BW := Lib.hid (BW.out.trans (hb.mono BW.out.size)); have KC := Lib.hid (KC.out.below hb); clear hb) | (go_at_call 19; (with_reducible refine (D1.out _ _ KC.out).mono ?_); rintro e w' ⟨rfl, hb, g', h'⟩; have BW := Lib.hid (BW.out.trans hb.low); have KC := Lib.hid h'; clear hb h') | (go_at_call 19; (with_reducible refine (D2.out _ _ KC.out).mono ?_); rintro e w' ⟨rfl, hb, g', h'⟩; have BW := Lib.hid (BW.out.trans hb.low); have KC := Lib.hid h'; clear hb h') | (go_at_call 19; (with_reducible refine (D3.out _ _ KC.out).mono ?_); rintro e w' ⟨rfl, hb, g', h'⟩; have BW := Lib.hid (BW.out.trans hb.low); have KC := Lib.hid h'; clear hb h') | (go_at_call 19; (with_reducible refine (D6.out _ _ KC.out).mono ?_); rintro e w' ⟨rfl, hb, g', h'⟩; have BW := Lib.hid (BW.out.trans hb.low); have KC := Lib.hid h'; clear hb h') | (go_at_call 19; (with_reducible refine (D7.out _ _ KC.out).mono ?_); rintro e w' ⟨rfl, hb, g', h'⟩; have BW := Lib.hid (BW.out.trans hb.low); have KC := Lib.hid h'; clear hb h') | (go_at_call 16; (with_reducible refine (awake_any _).mono ?_); rintro e w4 ⟨rfl, hb4⟩; have BW := Lib.hid (BW.out.trans (hb4.mono BW.out.size)); clear hb4))
            all_goals (go_ret; exact ⟨rfl, BW.out⟩)
        · have hql2 : 0 < ((afterF A0 l).q d).length := List.length_pos_iff.2 hq
          have hqd : decide ((0 : Int) < (((afterF A0 l).q d).length : Int)) = true := by simp; omega
          clear hq
          go_wp2_with (first | (go_at_call 18; (with_reducible refine C18.out.mono ?_); rintro e w2 ⟨rfl, hb2⟩; have BW := Lib.hid (HBR.out.trans (hb2.mono HBR.out.size)); have K2 := Lib.hid (HK1.out.below hb2); have Q := Lib.hid (queue_some _ _ _ _ _ K2.out d (.inr hdv) (by omega) HIN.out); clear hb2) | (go_at_call 21; (with_reducible refine Q.out.mono ?_); rintro e w3 ⟨v3, rfl, hb3, ho3⟩; have BW := Lib.hid (BW.out.trans (hb3.mono BW.out.size)); (obtain ⟨qa, qc, rfl⟩ := own_form ho3); clear hb3 ho3) | (go_at_call 16; (with_reducible refine (awake_any _).mono ?_); rintro e w4 ⟨rfl, hb4⟩; have BW := Lib.hid (BW.out.trans (hb4.mono BW.out.size)); clear hb4))
          go_ret
          exact ⟨rfl, BW.out⟩
end Go.Proofs.Ytkmgbnklfnjfjaa.Ker
