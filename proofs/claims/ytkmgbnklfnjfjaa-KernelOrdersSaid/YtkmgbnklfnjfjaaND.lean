import Derived.Test.YtkmgbnklfnjfjaaNC
/-! KernelOrders (f4): the walk. -/
namespace Go.Proofs.Ytkmgbnklfnjfjaa.Ker
open Go.RowKit Go.Maps

theorem do_asc (B kb : Nat) (a : A) (gd : Good a) (hca : 0 ≤ a.calls ∧ a.calls < 100000) (c : C3) (cc cd : Int) (s : S) (hs : doF a c = s) :
    ∀ (g : G) (w : World), KRep B kb g a w → Calls Try.prog 19 #[ptr kb, .agg #[.int .i64 c.1, .int .i64 c.2.1, .int .i64 c.2.2, .int .i64 cc, .int .i64 cd]] w (GivesS B kb w s) := fun g w h => by
  rw [← hs]
  exact do_det B kb g a w h gd hca c cc cd

set_option maxHeartbeats 4000000 in
set_option maxRecDepth 100000 in
theorem orders_walk (w : World) (v : Value) (l : List C3) (h : callsAt w v l) (hn : l.length ≤ 200) :
    Calls Try.prog 4 #[v] w fun e w' => e = .returned (.bool true) ∧ Below w.heap.size w w' := by
  obtain ⟨i0, hi, hz0, hz1, hz2⟩ := info_parts info42
  obtain ⟨va, vc, rfl, hc⟩ := h
  have HC := Lib.hid hc
  have CN := Lib.hid (new_any w)
  have hl : decide ((200 : Int) < (l.length : Int)) = false := decide_eq_false (by omega)
  clear hc
  go_enter Try.func4, Try.ntmps4
  go_wp2_with (go_at_call 17; (with_reducible refine CN.out.mono ?_); rintro e w1 ⟨rfl, hb, hk⟩; have HB := Lib.hid hb; have HK := Lib.hid hk; clear hb hk)
  go_loopw [4, 5] (fun u i wr => OrRel w l u i wr) (fun _ i _ => l.length - (intOf i).toNat)
  case atStart => exact ⟨0, G0 w.heap.size, A0, [], Nat.zero_le _, rfl, good0, by decide, by decide, HB.out, HK.out, ord0, Nat.zero_le _, owns_none⟩
  case round =>
    clear HB HK CN
    obtain ⟨j, g, a, sent, hj, rfl, gd, hca0, hcaj, hb, hk, hord, hsl, htr⟩ := hrel
    obtain ⟨ua, uc, rfl⟩ := own_form htr
    by_cases hlt : j < l.length
    · obtain ⟨gb, o, c, cc, cd, rfl, hg, hlc, c0, c1, c2, c3, c4⟩ := HC.out j hlt
      have z0 : wr.cell? ⟨gb, o + j * 5, none⟩ = some (.int .i64 c.1) := (hb.cell (p := ⟨gb, _, none⟩) hg).trans c0
      have z1 : wr.cell? ⟨gb, o + j * 5 + 1, none⟩ = some (.int .i64 c.2.1) := (hb.cell (p := ⟨gb, _, none⟩) hg).trans c1
      have z2 : wr.cell? ⟨gb, o + j * 5 + 2, none⟩ = some (.int .i64 c.2.2) := (hb.cell (p := ⟨gb, _, none⟩) hg).trans c2
      have z3 : wr.cell? ⟨gb, o + j * 5 + 3, none⟩ = some (.int .i64 cc) := (hb.cell (p := ⟨gb, _, none⟩) hg).trans c3
      have z4 : wr.cell? ⟨gb, o + j * 5 + 4, none⟩ = some (.int .i64 cd) := (hb.cell (p := ⟨gb, _, none⟩) hg).trans c4
      have hdd : decide ((j : Int) < (l.length : Int)) = true := by simpa using hlt
      have HBR := Lib.hid hb
      have HKR := Lib.hid hk
      have HTR := Lib.hid htr
      have HORD := Lib.hid hord
      have GD := Lib.hid gd
      clear hb hk htr hord gd hg c0 c1 c2 c3 c4 hlc
      by_cases h13 : c.1 = 13
      · have t13 : (c.1 == 13) = true := by simp [h13]
        have H13 := Lib.hid h13
        clear h13
        go_wp2_with fail
        go_roundw
        case rel => exact ⟨j + 1, g, a, sent, by omega, by go_num, GD.out, hca0, by omega, HBR.out.alloc HBR.out.size _, HKR.out.below ((Below.refl _ _).alloc (Nat.le_refl _) _), HORD.out, by omega, HTR.out.below ((Below.refl _ _).alloc (Nat.le_refl _) _)⟩
        case measure => simp [intOf]; omega
      · have t13 : (c.1 == 13) = false := by simp [h13]
        by_cases h10 : c.1 = 10
        · have t10 : (c.1 == 10) = true := by simp [h10]
          have H10 := Lib.hid h10
          clear h10 h13
          go_wp2_with fail
          go_roundw
          case rel => exact ⟨j + 1, g, a, sent, by omega, by go_num, GD.out, hca0, by omega, HBR.out.alloc HBR.out.size _, HKR.out.below ((Below.refl _ _).alloc (Nat.le_refl _) _), HORD.out, by omega, HTR.out.below ((Below.refl _ _).alloc (Nat.le_refl _) _)⟩
          case measure => simp [intOf]; omega
        · have t10 : (c.1 == 10) = false := by simp [h10]
          have os := ord_do GD.out HORD.out c h13 h10
          have ga := good_doF GD.out c
          have hcl := doF_calls a c
          have C18 := Lib.hid (run_det _ _ _ _ _ (HKR.out.below ((Below.refl _ _).alloc (Nat.le_refl _) (.cells #[.int .i64 c.1, .int .i64 c.2.1, .int .i64 c.2.2, .int .i64 cc, .int .i64 cd] 38))) GD.out)
          obtain ⟨r, hr⟩ : ∃ r, r = runF a := ⟨_, rfl⟩
          obtain ⟨s, hs⟩ : ∃ s, s = doF a c := ⟨_, rfl⟩
          rw [← hs] at os ga hcl
          rw [← hr] at os C18
          obtain ⟨sv, se, a1⟩ := s
          have C19 := Lib.hid (do_asc w.heap.size w.heap.size a GD.out (by omega) c cc cd _ hs.symm)
          have OS := Lib.hid os
          have GA := Lib.hid ga
          simp only at hcl
          have hca1 : 0 ≤ a1.calls := by omega
          have hca2 : a1.calls ≤ j + 1 := by omega
          clear os ga hr hs hcl h13 h10
          by_cases hse : se = 0
          · subst hse
            by_cases h3 : c.1 = 3
            · have t3 : (c.1 == 3) = true := by simp [h3]
              have t4 : (c.1 == 4) = false := by simp [h3]
              by_cases hto : 0 < c.2.2
              · have dto : decide (0 < c.2.2) = true := by simp [hto]
                have H3c := Lib.hid h3
                clear h3
                have HTO := Lib.hid hto
                clear hto
                go_wp2_with (first | (go_at_call 18; (with_reducible refine C18.out.mono ?_); rintro e w2 ⟨rfl, hb2⟩; have Y2 := Lib.hid ((hb2.block wr.heap.size (by simp)).trans (alloc_new wr (.cells #[.int .i64 c.1, .int .i64 c.2.1, .int .i64 c.2.2, .int .i64 cc, .int .i64 cd] 38))); have y0 : w2.cell? ⟨wr.heap.size, 0, none⟩ = some (.int .i64 c.1) := (cell_fr Y2.out 0).trans rfl; have y1 : w2.cell? ⟨wr.heap.size, 1, none⟩ = some (.int .i64 c.2.1) := (cell_fr Y2.out 1).trans rfl; have y2 : w2.cell? ⟨wr.heap.size, 2, none⟩ = some (.int .i64 c.2.2) := (cell_fr Y2.out 2).trans rfl; have y3 : w2.cell? ⟨wr.heap.size, 3, none⟩ = some (.int .i64 cc) := (cell_fr Y2.out 3).trans rfl; have y4 : w2.cell? ⟨wr.heap.size, 4, none⟩ = some (.int .i64 cd) := (cell_fr Y2.out 4).trans rfl; have B2 := Lib.hid (HBR.out.trans ((((Below.refl _ _).alloc (Nat.le_refl _) _).trans (hb2.mono (by simp))).mono HBR.out.size)); have K2 := Lib.hid ((HKR.out.below ((Below.refl _ _).alloc (Nat.le_refl _) _)).below hb2); have R2 := Lib.hid ((HTR.out.below ((Below.refl _ _).alloc (Nat.le_refl _) _)).below hb2); clear hb2) | (go_at_call 19; (with_reducible refine (C19.out _ _ K2.out).mono ?_); rintro e w3 ⟨rfl, hb3, g3, h3⟩; have Y3 := Lib.hid (hb3.off _ _ _ _ Y2.out rfl); have x0 : w3.cell? ⟨wr.heap.size, 0, none⟩ = some (.int .i64 c.1) := (cell_fr Y3.out 0).trans rfl; have x1 : w3.cell? ⟨wr.heap.size, 1, none⟩ = some (.int .i64 c.2.1) := (cell_fr Y3.out 1).trans rfl; have x2 : w3.cell? ⟨wr.heap.size, 2, none⟩ = some (.int .i64 c.2.2) := (cell_fr Y3.out 2).trans rfl; have B3 := Lib.hid (B2.out.trans hb3.low); have R3 := Lib.hid (R2.out.bel hb3); have H3 := Lib.hid h3; have sz3 : w.heap.size ≤ w3.heap.size := B3.out.size; clear hb3 h3) | (at_builtin; refine wpList_append_own_at _ rfl _ _ 36 rfl w.heap.size 42 i0 (.agg #[.int .i64 0, .int .i64 0, .int .i64 0]) 3 24 Try.underlying36 hi hz0 hz1 hz2 rfl (by decide) (.slice ua sent.length uc) sent.length (sent.flatMap tcells3) rfl (R3.out.alloc _) ⟨w3.heap.size, 0, none⟩ 1 1 [.int .i64 r, .int .i64 c.2.2, .int .i64 c.2.1] rfl rfl (new3 _ _ _ _) (one3 _ _ _) (by unfold maxLen; omega) (by omega) (by simp; omega) ?_; intro v4 w4 ho4 hg4 hnil4 hloc4; have HG4 := Lib.hid ((World.grownBy_alloc _ _ _).trans hg4); have R4 := Lib.hid (trow.snoc (x := (r, c.2.2, c.2.1)) ho4); have K4 := Lib.hid (trow.ker (u := .slice ua sent.length uc) H3.out R3.out HG4.out); have B4 := Lib.hid (B3.out.trans ((Below.refl _ _).grown HG4.out sz3 (fun k hk => (own_block R3.out hk).1))); have Y4 := Lib.hid ((HG4.out.block wr.heap.size (blt Y3.out) (fun e => by obtain ⟨_, cc0, hh⟩ := own_block R3.out e.symm; rw [Y3.out] at hh; simp at hh)).trans Y3.out); have y40 : w4.cell? ⟨wr.heap.size, 0, none⟩ = some (.int .i64 c.1) := (cell_fr Y4.out 0).trans rfl; clear ho4 hg4 hnil4 hloc4))
                go_roundw
                case rel => exact ⟨j + 1, g3, a1, sent ++ [(r, c.2.2, c.2.1)], by omega, by go_num, GA.out, hca1, by push_cast; omega, B4.out, K4.out, OS.out.send rfl H3c.out HTO.out, by simp; omega, by simpa using R4.out⟩
                case measure => simp [intOf]; omega
              · have dto : decide (0 < c.2.2) = false := by simp; omega
                have H3c := Lib.hid h3
                have HTO := Lib.hid hto
                clear h3 hto
                go_wp2_with (first | (go_at_call 18; (with_reducible refine C18.out.mono ?_); rintro e w2 ⟨rfl, hb2⟩; have Y2 := Lib.hid ((hb2.block wr.heap.size (by simp)).trans (alloc_new wr (.cells #[.int .i64 c.1, .int .i64 c.2.1, .int .i64 c.2.2, .int .i64 cc, .int .i64 cd] 38))); have y0 : w2.cell? ⟨wr.heap.size, 0, none⟩ = some (.int .i64 c.1) := (cell_fr Y2.out 0).trans rfl; have y1 : w2.cell? ⟨wr.heap.size, 1, none⟩ = some (.int .i64 c.2.1) := (cell_fr Y2.out 1).trans rfl; have y2 : w2.cell? ⟨wr.heap.size, 2, none⟩ = some (.int .i64 c.2.2) := (cell_fr Y2.out 2).trans rfl; have y3 : w2.cell? ⟨wr.heap.size, 3, none⟩ = some (.int .i64 cc) := (cell_fr Y2.out 3).trans rfl; have y4 : w2.cell? ⟨wr.heap.size, 4, none⟩ = some (.int .i64 cd) := (cell_fr Y2.out 4).trans rfl; have B2 := Lib.hid (HBR.out.trans ((((Below.refl _ _).alloc (Nat.le_refl _) _).trans (hb2.mono (by simp))).mono HBR.out.size)); have K2 := Lib.hid ((HKR.out.below ((Below.refl _ _).alloc (Nat.le_refl _) _)).below hb2); have R2 := Lib.hid ((HTR.out.below ((Below.refl _ _).alloc (Nat.le_refl _) _)).below hb2); clear hb2) | (go_at_call 19; (with_reducible refine (C19.out _ _ K2.out).mono ?_); rintro e w3 ⟨rfl, hb3, g3, h3⟩; have Y3 := Lib.hid (hb3.off _ _ _ _ Y2.out rfl); have x0 : w3.cell? ⟨wr.heap.size, 0, none⟩ = some (.int .i64 c.1) := (cell_fr Y3.out 0).trans rfl; have x1 : w3.cell? ⟨wr.heap.size, 1, none⟩ = some (.int .i64 c.2.1) := (cell_fr Y3.out 1).trans rfl; have x2 : w3.cell? ⟨wr.heap.size, 2, none⟩ = some (.int .i64 c.2.2) := (cell_fr Y3.out 2).trans rfl; have B3 := Lib.hid (B2.out.trans hb3.low); have R3 := Lib.hid (R2.out.bel hb3); have H3 := Lib.hid h3; have sz3 : w.heap.size ≤ w3.heap.size := B3.out.size; clear hb3 h3))
                go_roundw
                case rel => exact ⟨j + 1, g3, a1, sent, by omega, by go_num, GA.out, hca1, by push_cast; omega, B3.out, H3.out, OS.out.rest rfl (fun hh => absurd hh.2 (by have := HTO.out; omega)) (fun hh => by have h1 := H3c.out; have h2 := hh.1; omega), by omega, R3.out⟩
                case measure => simp [intOf]; omega
            · have t3 : (c.1 == 3) = false := by simp [h3]
              by_cases h4 : c.1 = 4
              · have t4 : (c.1 == 4) = true := by simp [h4]
                have H4c := Lib.hid h4
                have H3c := Lib.hid h3
                clear h3 h4
                by_cases hv : 0 < sv
                · have dv : decide (0 < sv) = true := by simp [hv]
                  have HTK := Lib.hid (OS.out.take rfl H4c.out hv)
                  obtain ⟨pk, hpk⟩ : ∃ pk, pk = a1.pk sv := ⟨_, rfl⟩
                  have P20 := Lib.hid (show ∀ (g : G) (w' : World), KRep w.heap.size w.heap.size g a1 w' → Calls Try.prog 20 #[ptr w.heap.size, .int .i64 sv] w' fun e w'' => e = .returned (.tuple #[.agg #[.int .i64 sv, .int .i64 pk.ty, .int .i64 pk.res, .int .i64 pk.own, .int .i64 pk.at_, .int .i64 pk.frm, .int .i64 pk.wth], .int .i64 0]) ∧ Below w'.heap.size w' w'' from fun g w' h => by
                    have := getp_some _ _ g _ w' h sv HTK.out.1
                    unfold pagg at this
                    rw [← hpk] at this
                    exact this)
                  have htk := HTK.out.2
                  simp only at htk
                  rw [← hpk] at htk
                  have HTK2 := Lib.hid htk
                  clear htk hpk HTK
                  by_cases hf : pk.frm < 0
                  · have df : decide (pk.frm < 0) = true := by simp [hf]
                    have HF := Lib.hid hf
                    clear hf
                    go_wp2_with (first | (go_at_call 18; (with_reducible refine C18.out.mono ?_); rintro e w2 ⟨rfl, hb2⟩; have Y2 := Lib.hid ((hb2.block wr.heap.size (by simp)).trans (alloc_new wr (.cells #[.int .i64 c.1, .int .i64 c.2.1, .int .i64 c.2.2, .int .i64 cc, .int .i64 cd] 38))); have y0 : w2.cell? ⟨wr.heap.size, 0, none⟩ = some (.int .i64 c.1) := (cell_fr Y2.out 0).trans rfl; have y1 : w2.cell? ⟨wr.heap.size, 1, none⟩ = some (.int .i64 c.2.1) := (cell_fr Y2.out 1).trans rfl; have y2 : w2.cell? ⟨wr.heap.size, 2, none⟩ = some (.int .i64 c.2.2) := (cell_fr Y2.out 2).trans rfl; have y3 : w2.cell? ⟨wr.heap.size, 3, none⟩ = some (.int .i64 cc) := (cell_fr Y2.out 3).trans rfl; have y4 : w2.cell? ⟨wr.heap.size, 4, none⟩ = some (.int .i64 cd) := (cell_fr Y2.out 4).trans rfl; have B2 := Lib.hid (HBR.out.trans ((((Below.refl _ _).alloc (Nat.le_refl _) _).trans (hb2.mono (by simp))).mono HBR.out.size)); have K2 := Lib.hid ((HKR.out.below ((Below.refl _ _).alloc (Nat.le_refl _) _)).below hb2); have R2 := Lib.hid ((HTR.out.below ((Below.refl _ _).alloc (Nat.le_refl _) _)).below hb2); clear hb2) | (go_at_call 19; (with_reducible refine (C19.out _ _ K2.out).mono ?_); rintro e w3 ⟨rfl, hb3, g3, h3⟩; have Y3 := Lib.hid (hb3.off _ _ _ _ Y2.out rfl); have x0 : w3.cell? ⟨wr.heap.size, 0, none⟩ = some (.int .i64 c.1) := (cell_fr Y3.out 0).trans rfl; have x1 : w3.cell? ⟨wr.heap.size, 1, none⟩ = some (.int .i64 c.2.1) := (cell_fr Y3.out 1).trans rfl; have x2 : w3.cell? ⟨wr.heap.size, 2, none⟩ = some (.int .i64 c.2.2) := (cell_fr Y3.out 2).trans rfl; have B3 := Lib.hid (B2.out.trans hb3.low); have R3 := Lib.hid (R2.out.bel hb3); have H3 := Lib.hid h3; have sz3 : w.heap.size ≤ w3.heap.size := B3.out.size; clear hb3 h3) | (go_at_call 20; (with_reducible refine (P20.out _ _ H3.out).mono ?_); rintro e w5 ⟨rfl, hb5⟩; have A5 := Lib.hid (hb5.alloc hb5.size (.cells #[.int .i64 sv, .int .i64 pk.ty, .int .i64 pk.res, .int .i64 pk.own, .int .i64 pk.at_, .int .i64 pk.frm, .int .i64 pk.wth] 44)); clear hb5))
                    go_roundw
                    case rel => exact ⟨j + 1, g3, a1, sent, by omega, by go_num, GA.out, hca1, by push_cast; omega, B3.out.trans (A5.out.mono B3.out.size), H3.out.below A5.out, HTK2.out.1 HF.out, by omega, R3.out.below A5.out⟩
                    case measure => simp [intOf]; omega
                  · have df : decide (pk.frm < 0) = false := by simp; omega
                    obtain ⟨hfirst, hord2⟩ := HTK2.out.2 (by omega)
                    have HFIRST := Lib.hid hfirst
                    have HORD2 := Lib.hid hord2
                    clear hf hfirst hord2
                    go_wp2_with (first | (go_at_call 18; (with_reducible refine C18.out.mono ?_); rintro e w2 ⟨rfl, hb2⟩; have Y2 := Lib.hid ((hb2.block wr.heap.size (by simp)).trans (alloc_new wr (.cells #[.int .i64 c.1, .int .i64 c.2.1, .int .i64 c.2.2, .int .i64 cc, .int .i64 cd] 38))); have y0 : w2.cell? ⟨wr.heap.size, 0, none⟩ = some (.int .i64 c.1) := (cell_fr Y2.out 0).trans rfl; have y1 : w2.cell? ⟨wr.heap.size, 1, none⟩ = some (.int .i64 c.2.1) := (cell_fr Y2.out 1).trans rfl; have y2 : w2.cell? ⟨wr.heap.size, 2, none⟩ = some (.int .i64 c.2.2) := (cell_fr Y2.out 2).trans rfl; have y3 : w2.cell? ⟨wr.heap.size, 3, none⟩ = some (.int .i64 cc) := (cell_fr Y2.out 3).trans rfl; have y4 : w2.cell? ⟨wr.heap.size, 4, none⟩ = some (.int .i64 cd) := (cell_fr Y2.out 4).trans rfl; have B2 := Lib.hid (HBR.out.trans ((((Below.refl _ _).alloc (Nat.le_refl _) _).trans (hb2.mono (by simp))).mono HBR.out.size)); have K2 := Lib.hid ((HKR.out.below ((Below.refl _ _).alloc (Nat.le_refl _) _)).below hb2); have R2 := Lib.hid ((HTR.out.below ((Below.refl _ _).alloc (Nat.le_refl _) _)).below hb2); clear hb2) | (go_at_call 19; (with_reducible refine (C19.out _ _ K2.out).mono ?_); rintro e w3 ⟨rfl, hb3, g3, h3⟩; have Y3 := Lib.hid (hb3.off _ _ _ _ Y2.out rfl); have x0 : w3.cell? ⟨wr.heap.size, 0, none⟩ = some (.int .i64 c.1) := (cell_fr Y3.out 0).trans rfl; have x1 : w3.cell? ⟨wr.heap.size, 1, none⟩ = some (.int .i64 c.2.1) := (cell_fr Y3.out 1).trans rfl; have x2 : w3.cell? ⟨wr.heap.size, 2, none⟩ = some (.int .i64 c.2.2) := (cell_fr Y3.out 2).trans rfl; have B3 := Lib.hid (B2.out.trans hb3.low); have R3 := Lib.hid (R2.out.bel hb3); have H3 := Lib.hid h3; have sz3 : w.heap.size ≤ w3.heap.size := B3.out.size; clear hb3 h3) | (go_at_call 20; (with_reducible refine (P20.out _ _ H3.out).mono ?_); rintro e w5 ⟨rfl, hb5⟩; have A5 := Lib.hid (hb5.alloc hb5.size (.cells #[.int .i64 sv, .int .i64 pk.ty, .int .i64 pk.res, .int .i64 pk.own, .int .i64 pk.at_, .int .i64 pk.frm, .int .i64 pk.wth] 44)); clear hb5))
                    have B5 := Lib.hid (B3.out.trans (A5.out.mono B3.out.size))
                    have K5 := Lib.hid (H3.out.below A5.out)
                    have R5 := Lib.hid (R3.out.below A5.out)
                    have P5 := Lib.hid (alloc_new w5 (.cells #[.int .i64 sv, .int .i64 pk.ty, .int .i64 pk.res, .int .i64 pk.own, .int .i64 pk.at_, .int .i64 pk.frm, .int .i64 pk.wth] 44))
                    go_loopw [12, 13, 14] (fun ur fi i wq => ScRel w g3 a1 sent pk.frm r (.slice ua sent.length uc) w5.heap.size #[.int .i64 sv, .int .i64 pk.ty, .int .i64 pk.res, .int .i64 pk.own, .int .i64 pk.at_, .int .i64 pk.frm, .int .i64 pk.wth] ur fi i wq) (fun _ _ i _ => sent.length - (intOf i).toNat)
                    case atStart => exact ⟨0, 0, [], Nat.zero_le _, rfl, rfl, rfl, B5.out, K5.out, R5.out, owns_none, (fun b hb => by cases hb), P5.out⟩
                    case round =>
                      clear B5 K5 R5 P5
                      obtain ⟨n, first, rest, hnl, rfl, rfl, hsc, hb, hk, hs, hr, hsep, hp⟩ := hrel
                      obtain ⟨ub, ud, rfl⟩ := own_form hr
                      have szr : w.heap.size ≤ wr.heap.size := hb.size
                      have hrl : rest.length ≤ 200 := by
                        have h1 : rest = (scan pk.frm r (sent.take n)).2 := by rw [← hsc]
                        have h2 := scan_len pk.frm r (sent.take n) [] 0
                        rw [h1]
                        simp only [List.length_nil, List.length_take] at h2
                        unfold scan
                        omega
                      have HB := Lib.hid hb
                      have HK := Lib.hid hk
                      have HS := Lib.hid hs
                      have HR := Lib.hid hr
                      have HSEP := Lib.hid hsep
                      have HP := Lib.hid hp
                      have HSC := Lib.hid hsc
                      by_cases hlt2 : n < sent.length
                      · have hd2 : decide ((n : Int) < (sent.length : Int)) = true := by simpa using hlt2
                        obtain ⟨x, hx⟩ : ∃ x, sent[n]? = some x := ⟨_, List.getElem?_eq_getElem hlt2⟩
                        obtain ⟨gs, cs, hv2, e0, e1, e2⟩ := hs.cells hx
                        simp only [Value.slice.injEq] at hv2
                        obtain ⟨rfl, -, rfl⟩ := hv2
                        have pf : wr.cell? ⟨w5.heap.size, 5, none⟩ = some (.int .i64 pk.frm) := (cell_fr hp 5).trans rfl
                        have HT := Lib.hid (show sent.take (n + 1) = sent.take n ++ [x] by
                          rw [List.getElem?_eq_getElem hlt2] at hx
                          rw [List.take_succ_eq_append_getElem hlt2]
                          simp at hx
                          rw [hx])
                        clear hb hk hs hr hsep hp hsc hx
                        by_cases h0 : first = 0
                        · by_cases h1 : x.1 = pk.frm
                          · by_cases h2 : x.2.1 = r
                            · have HC4 := Lib.hid (show first = 0 ∧ x.1 = pk.frm ∧ x.2.1 = r from ⟨h0, h1, h2⟩)
                              have q0 : (first == 0) = true := by simp [h0]
                              have q1 : (x.1 == pk.frm) = true := by simp [h1]
                              have q2 : (x.2.1 == r) = true := by simp [h2]
                              clear h0 h1 h2
                              go_wp2_with fail
                              go_quiet (fail)
                              go_wp2_with fail
                              go_roundw
                              case rel =>
                                refine ⟨n + 1, x.2.2, rest, by omega, by go_num, rfl, ?_, below_drewN HB.out _, HK.out.keep (fun _ _ => rfl), HS.out.drewN _, HR.out.drewN _, HSEP.out, HP.out⟩
                                rw [HT.out, scan_snoc, ← HSC.out]
                                unfold scan1
                                rw [if_pos HC4.out]
                              case measure => simp [intOf]; omega
                            · have HC4 := Lib.hid (show ¬ (first = 0 ∧ x.1 = pk.frm ∧ x.2.1 = r) from fun hh => h2 hh.2.2)
                              have q0 : (first == 0) = true := by simp [h0]
                              have q1 : (x.1 == pk.frm) = true := by simp [h1]
                              have q2 : (x.2.1 == r) = false := by simp [h2]
                              clear h0 h1 h2
                              go_wp2_with fail
                              go_quiet (fail)
                              go_wp2_with (at_builtin; refine wpList_append_own_at _ rfl _ _ 36 rfl w.heap.size 42 i0 (.agg #[.int .i64 0, .int .i64 0, .int .i64 0]) 3 24 Try.underlying36 hi hz0 hz1 hz2 rfl (by decide) (.slice ub rest.length ud) rest.length (rest.flatMap tcells3) rfl ((HR.out.drewN nq).alloc _) ⟨wr.heap.size, 0, none⟩ 1 1 [.int .i64 x.1, .int .i64 x.2.1, .int .i64 x.2.2] rfl rfl (new3 (wr.drewN nq) _ _ _) (one3 _ _ _) (by unfold maxLen; omega) (by omega) (by simp; omega) ?_; intro v4 w4 ho4 hg4 hnil4 hloc4; have HG4 := Lib.hid ((World.grownBy_alloc (wr.drewN nq) _ _).trans hg4); have R4 := Lib.hid (trow.snoc (x := x) ho4); (have hl4 : v4.ownBlock = (Value.slice ub rest.length ud).ownBlock ∨ v4.ownBlock = some ((wr.drewN nq).heap.size + 1) := by simpa using hloc4); have K4 := Lib.hid (trow.ker (u := .slice ub rest.length ud) (HK.out.keep (w' := wr.drewN nq) (fun _ _ => rfl)) (HR.out.drewN nq) HG4.out); have B4 := Lib.hid ((below_drewN HB.out nq).trans ((Below.refl _ _).grown HG4.out szr (fun k hk => (own_block HR.out hk).1))); have S4 := Lib.hid (trow.other (u1 := .slice ub rest.length ud) (HS.out.drewN nq) HG4.out HSEP.out); have SP4 := Lib.hid (sepB.grow HSEP.out (HS.out.drewN nq) hl4); have P4 := Lib.hid ((HG4.out.block w5.heap.size (blt HP.out) (fun e => by obtain ⟨_, cc0, hh⟩ := own_block HR.out e.symm; rw [HP.out] at hh; simp at hh)).trans HP.out); clear ho4 hg4 hnil4 hloc4 hl4)
                              go_roundw
                              case rel =>
                                refine ⟨n + 1, first, rest ++ [x], by omega, by go_num, rfl, ?_, B4.out, K4.out, S4.out, by simpa using R4.out, SP4.out, P4.out⟩
                                rw [HT.out, scan_snoc, ← HSC.out]
                                unfold scan1
                                rw [if_neg HC4.out]
                              case measure => simp [intOf]; omega
                          · have HC4 := Lib.hid (show ¬ (first = 0 ∧ x.1 = pk.frm ∧ x.2.1 = r) from fun hh => h1 hh.2.1)
                            have q0 : (first == 0) = true := by simp [h0]
                            have q1 : (x.1 == pk.frm) = false := by simp [h1]
                            clear h0 h1
                            go_wp2_with fail
                            go_quiet (fail)
                            go_wp2_with (at_builtin; refine wpList_append_own_at _ rfl _ _ 36 rfl w.heap.size 42 i0 (.agg #[.int .i64 0, .int .i64 0, .int .i64 0]) 3 24 Try.underlying36 hi hz0 hz1 hz2 rfl (by decide) (.slice ub rest.length ud) rest.length (rest.flatMap tcells3) rfl ((HR.out.drewN nq).alloc _) ⟨wr.heap.size, 0, none⟩ 1 1 [.int .i64 x.1, .int .i64 x.2.1, .int .i64 x.2.2] rfl rfl (new3 (wr.drewN nq) _ _ _) (one3 _ _ _) (by unfold maxLen; omega) (by omega) (by simp; omega) ?_; intro v4 w4 ho4 hg4 hnil4 hloc4; have HG4 := Lib.hid ((World.grownBy_alloc (wr.drewN nq) _ _).trans hg4); have R4 := Lib.hid (trow.snoc (x := x) ho4); (have hl4 : v4.ownBlock = (Value.slice ub rest.length ud).ownBlock ∨ v4.ownBlock = some ((wr.drewN nq).heap.size + 1) := by simpa using hloc4); have K4 := Lib.hid (trow.ker (u := .slice ub rest.length ud) (HK.out.keep (w' := wr.drewN nq) (fun _ _ => rfl)) (HR.out.drewN nq) HG4.out); have B4 := Lib.hid ((below_drewN HB.out nq).trans ((Below.refl _ _).grown HG4.out szr (fun k hk => (own_block HR.out hk).1))); have S4 := Lib.hid (trow.other (u1 := .slice ub rest.length ud) (HS.out.drewN nq) HG4.out HSEP.out); have SP4 := Lib.hid (sepB.grow HSEP.out (HS.out.drewN nq) hl4); have P4 := Lib.hid ((HG4.out.block w5.heap.size (blt HP.out) (fun e => by obtain ⟨_, cc0, hh⟩ := own_block HR.out e.symm; rw [HP.out] at hh; simp at hh)).trans HP.out); clear ho4 hg4 hnil4 hloc4 hl4)
                            go_roundw
                            case rel =>
                              refine ⟨n + 1, first, rest ++ [x], by omega, by go_num, rfl, ?_, B4.out, K4.out, S4.out, by simpa using R4.out, SP4.out, P4.out⟩
                              rw [HT.out, scan_snoc, ← HSC.out]
                              unfold scan1
                              rw [if_neg HC4.out]
                            case measure => simp [intOf]; omega
                        · have HC4 := Lib.hid (show ¬ (first = 0 ∧ x.1 = pk.frm ∧ x.2.1 = r) from fun hh => h0 hh.1)
                          have q0 : (first == 0) = false := by simp [h0]
                          clear h0
                          go_wp2_with fail
                          go_quiet (fail)
                          go_wp2_with (at_builtin; refine wpList_append_own_at _ rfl _ _ 36 rfl w.heap.size 42 i0 (.agg #[.int .i64 0, .int .i64 0, .int .i64 0]) 3 24 Try.underlying36 hi hz0 hz1 hz2 rfl (by decide) (.slice ub rest.length ud) rest.length (rest.flatMap tcells3) rfl ((HR.out.drewN nq).alloc _) ⟨wr.heap.size, 0, none⟩ 1 1 [.int .i64 x.1, .int .i64 x.2.1, .int .i64 x.2.2] rfl rfl (new3 (wr.drewN nq) _ _ _) (one3 _ _ _) (by unfold maxLen; omega) (by omega) (by simp; omega) ?_; intro v4 w4 ho4 hg4 hnil4 hloc4; have HG4 := Lib.hid ((World.grownBy_alloc (wr.drewN nq) _ _).trans hg4); have R4 := Lib.hid (trow.snoc (x := x) ho4); (have hl4 : v4.ownBlock = (Value.slice ub rest.length ud).ownBlock ∨ v4.ownBlock = some ((wr.drewN nq).heap.size + 1) := by simpa using hloc4); have K4 := Lib.hid (trow.ker (u := .slice ub rest.length ud) (HK.out.keep (w' := wr.drewN nq) (fun _ _ => rfl)) (HR.out.drewN nq) HG4.out); have B4 := Lib.hid ((below_drewN HB.out nq).trans ((Below.refl _ _).grown HG4.out szr (fun k hk => (own_block HR.out hk).1))); have S4 := Lib.hid (trow.other (u1 := .slice ub rest.length ud) (HS.out.drewN nq) HG4.out HSEP.out); have SP4 := Lib.hid (sepB.grow HSEP.out (HS.out.drewN nq) hl4); have P4 := Lib.hid ((HG4.out.block w5.heap.size (blt HP.out) (fun e => by obtain ⟨_, cc0, hh⟩ := own_block HR.out e.symm; rw [HP.out] at hh; simp at hh)).trans HP.out); clear ho4 hg4 hnil4 hloc4 hl4)
                          go_roundw
                          case rel =>
                            refine ⟨n + 1, first, rest ++ [x], by omega, by go_num, rfl, ?_, B4.out, K4.out, S4.out, by simpa using R4.out, SP4.out, P4.out⟩
                            rw [HT.out, scan_snoc, ← HSC.out]
                            unfold scan1
                            rw [if_neg HC4.out]
                          case measure => simp [intOf]; omega
                      · have hns : n = sent.length := by omega
                        subst hns
                        have hd2 : decide ((sent.length : Int) < (sent.length : Int)) = false := by simp
                        rw [List.take_length] at hsc
                        have hf1 : first = sv := by rw [← HFIRST.out, ← hsc]
                        have hr1 : rest = (scan pk.frm r sent).2 := by rw [← hsc]
                        obtain rfl := hf1
                        have HR1 := Lib.hid hr1
                        have hne : (first != first) = false := by simp
                        clear hb hk hs hr hsep hp hsc hr1
                        go_wp2_with fail
                        go_roundw
                        case rel =>
                          refine ⟨j + 1, g3, a1, rest, by omega, by go_num, GA.out, hca1, by push_cast; omega, HB.out, HK.out, ?_, ?_, HR.out⟩
                          · rw [HR1.out]; exact HORD2.out
                          · rw [HR1.out]
                            have h2 := scan_len pk.frm r sent [] 0
                            simp only [List.length_nil] at h2
                            unfold scan
                            omega
                        case measure => simp [intOf]; omega
                · have dv : decide (0 < sv) = false := by simp; omega
                  have HV := Lib.hid hv
                  clear hv
                  go_wp2_with (first | (go_at_call 18; (with_reducible refine C18.out.mono ?_); rintro e w2 ⟨rfl, hb2⟩; have Y2 := Lib.hid ((hb2.block wr.heap.size (by simp)).trans (alloc_new wr (.cells #[.int .i64 c.1, .int .i64 c.2.1, .int .i64 c.2.2, .int .i64 cc, .int .i64 cd] 38))); have y0 : w2.cell? ⟨wr.heap.size, 0, none⟩ = some (.int .i64 c.1) := (cell_fr Y2.out 0).trans rfl; have y1 : w2.cell? ⟨wr.heap.size, 1, none⟩ = some (.int .i64 c.2.1) := (cell_fr Y2.out 1).trans rfl; have y2 : w2.cell? ⟨wr.heap.size, 2, none⟩ = some (.int .i64 c.2.2) := (cell_fr Y2.out 2).trans rfl; have y3 : w2.cell? ⟨wr.heap.size, 3, none⟩ = some (.int .i64 cc) := (cell_fr Y2.out 3).trans rfl; have y4 : w2.cell? ⟨wr.heap.size, 4, none⟩ = some (.int .i64 cd) := (cell_fr Y2.out 4).trans rfl; have B2 := Lib.hid (HBR.out.trans ((((Below.refl _ _).alloc (Nat.le_refl _) _).trans (hb2.mono (by simp))).mono HBR.out.size)); have K2 := Lib.hid ((HKR.out.below ((Below.refl _ _).alloc (Nat.le_refl _) _)).below hb2); have R2 := Lib.hid ((HTR.out.below ((Below.refl _ _).alloc (Nat.le_refl _) _)).below hb2); clear hb2) | (go_at_call 19; (with_reducible refine (C19.out _ _ K2.out).mono ?_); rintro e w3 ⟨rfl, hb3, g3, h3⟩; have Y3 := Lib.hid (hb3.off _ _ _ _ Y2.out rfl); have x0 : w3.cell? ⟨wr.heap.size, 0, none⟩ = some (.int .i64 c.1) := (cell_fr Y3.out 0).trans rfl; have x1 : w3.cell? ⟨wr.heap.size, 1, none⟩ = some (.int .i64 c.2.1) := (cell_fr Y3.out 1).trans rfl; have x2 : w3.cell? ⟨wr.heap.size, 2, none⟩ = some (.int .i64 c.2.2) := (cell_fr Y3.out 2).trans rfl; have B3 := Lib.hid (B2.out.trans hb3.low); have R3 := Lib.hid (R2.out.bel hb3); have H3 := Lib.hid h3; have sz3 : w.heap.size ≤ w3.heap.size := B3.out.size; clear hb3 h3))
                  go_roundw
                  case rel => exact ⟨j + 1, g3, a1, sent, by omega, by go_num, GA.out, hca1, by push_cast; omega, B3.out, H3.out, OS.out.rest rfl (fun hh => H3c.out hh.1) (fun hh => absurd hh.2 (by have := HV.out; omega)), by omega, R3.out⟩
                  case measure => simp [intOf]; omega
              · have t4 : (c.1 == 4) = false := by simp [h4]
                have H4c := Lib.hid h4
                have H3c := Lib.hid h3
                clear h3 h4
                go_wp2_with (first | (go_at_call 18; (with_reducible refine C18.out.mono ?_); rintro e w2 ⟨rfl, hb2⟩; have Y2 := Lib.hid ((hb2.block wr.heap.size (by simp)).trans (alloc_new wr (.cells #[.int .i64 c.1, .int .i64 c.2.1, .int .i64 c.2.2, .int .i64 cc, .int .i64 cd] 38))); have y0 : w2.cell? ⟨wr.heap.size, 0, none⟩ = some (.int .i64 c.1) := (cell_fr Y2.out 0).trans rfl; have y1 : w2.cell? ⟨wr.heap.size, 1, none⟩ = some (.int .i64 c.2.1) := (cell_fr Y2.out 1).trans rfl; have y2 : w2.cell? ⟨wr.heap.size, 2, none⟩ = some (.int .i64 c.2.2) := (cell_fr Y2.out 2).trans rfl; have y3 : w2.cell? ⟨wr.heap.size, 3, none⟩ = some (.int .i64 cc) := (cell_fr Y2.out 3).trans rfl; have y4 : w2.cell? ⟨wr.heap.size, 4, none⟩ = some (.int .i64 cd) := (cell_fr Y2.out 4).trans rfl; have B2 := Lib.hid (HBR.out.trans ((((Below.refl _ _).alloc (Nat.le_refl _) _).trans (hb2.mono (by simp))).mono HBR.out.size)); have K2 := Lib.hid ((HKR.out.below ((Below.refl _ _).alloc (Nat.le_refl _) _)).below hb2); have R2 := Lib.hid ((HTR.out.below ((Below.refl _ _).alloc (Nat.le_refl _) _)).below hb2); clear hb2) | (go_at_call 19; (with_reducible refine (C19.out _ _ K2.out).mono ?_); rintro e w3 ⟨rfl, hb3, g3, h3⟩; have Y3 := Lib.hid (hb3.off _ _ _ _ Y2.out rfl); have x0 : w3.cell? ⟨wr.heap.size, 0, none⟩ = some (.int .i64 c.1) := (cell_fr Y3.out 0).trans rfl; have x1 : w3.cell? ⟨wr.heap.size, 1, none⟩ = some (.int .i64 c.2.1) := (cell_fr Y3.out 1).trans rfl; have x2 : w3.cell? ⟨wr.heap.size, 2, none⟩ = some (.int .i64 c.2.2) := (cell_fr Y3.out 2).trans rfl; have B3 := Lib.hid (B2.out.trans hb3.low); have R3 := Lib.hid (R2.out.bel hb3); have H3 := Lib.hid h3; have sz3 : w.heap.size ≤ w3.heap.size := B3.out.size; clear hb3 h3))
                go_roundw
                case rel => exact ⟨j + 1, g3, a1, sent, by omega, by go_num, GA.out, hca1, by push_cast; omega, B3.out, H3.out, OS.out.rest rfl (fun hh => H3c.out hh.1) (fun hh => H4c.out hh.1), by omega, R3.out⟩
                case measure => simp [intOf]; omega
          · have tse : (se != 0) = true := by simp [hse]
            have HSE := Lib.hid hse
            clear hse
            go_wp2_with (first | (go_at_call 18; (with_reducible refine C18.out.mono ?_); rintro e w2 ⟨rfl, hb2⟩; have Y2 := Lib.hid ((hb2.block wr.heap.size (by simp)).trans (alloc_new wr (.cells #[.int .i64 c.1, .int .i64 c.2.1, .int .i64 c.2.2, .int .i64 cc, .int .i64 cd] 38))); have y0 : w2.cell? ⟨wr.heap.size, 0, none⟩ = some (.int .i64 c.1) := (cell_fr Y2.out 0).trans rfl; have y1 : w2.cell? ⟨wr.heap.size, 1, none⟩ = some (.int .i64 c.2.1) := (cell_fr Y2.out 1).trans rfl; have y2 : w2.cell? ⟨wr.heap.size, 2, none⟩ = some (.int .i64 c.2.2) := (cell_fr Y2.out 2).trans rfl; have y3 : w2.cell? ⟨wr.heap.size, 3, none⟩ = some (.int .i64 cc) := (cell_fr Y2.out 3).trans rfl; have y4 : w2.cell? ⟨wr.heap.size, 4, none⟩ = some (.int .i64 cd) := (cell_fr Y2.out 4).trans rfl; have B2 := Lib.hid (HBR.out.trans ((((Below.refl _ _).alloc (Nat.le_refl _) _).trans (hb2.mono (by simp))).mono HBR.out.size)); have K2 := Lib.hid ((HKR.out.below ((Below.refl _ _).alloc (Nat.le_refl _) _)).below hb2); have R2 := Lib.hid ((HTR.out.below ((Below.refl _ _).alloc (Nat.le_refl _) _)).below hb2); clear hb2) | (go_at_call 19; (with_reducible refine (C19.out _ _ K2.out).mono ?_); rintro e w3 ⟨rfl, hb3, g3, h3⟩; have Y3 := Lib.hid (hb3.off _ _ _ _ Y2.out rfl); have x0 : w3.cell? ⟨wr.heap.size, 0, none⟩ = some (.int .i64 c.1) := (cell_fr Y3.out 0).trans rfl; have x1 : w3.cell? ⟨wr.heap.size, 1, none⟩ = some (.int .i64 c.2.1) := (cell_fr Y3.out 1).trans rfl; have x2 : w3.cell? ⟨wr.heap.size, 2, none⟩ = some (.int .i64 c.2.2) := (cell_fr Y3.out 2).trans rfl; have B3 := Lib.hid (B2.out.trans hb3.low); have R3 := Lib.hid (R2.out.bel hb3); have H3 := Lib.hid h3; have sz3 : w.heap.size ≤ w3.heap.size := B3.out.size; clear hb3 h3))
            go_roundw
            case rel => exact ⟨j + 1, g3, a1, sent, by omega, by go_num, GA.out, hca1, by push_cast; omega, B3.out, H3.out, OS.out.err HSE.out, by omega, R3.out⟩
            case measure => simp [intOf]; omega
    · have hjn : j = l.length := by omega
      subst hjn
      have hdd : decide ((l.length : Int) < (l.length : Int)) = false := by simp
      have HB1 := Lib.hid hb
      clear hb hk gd hord htr
      go_wp2_with (go_at_call 16; (with_reducible refine (awake_any _).mono ?_); rintro e w4 ⟨rfl, hb4⟩; have BW := Lib.hid (HB1.out.trans (hb4.mono HB1.out.size)); clear hb4)
      go_ret
      exact ⟨rfl, BW.out⟩
set_option maxHeartbeats 1000000 in
set_option maxRecDepth 100000 in
theorem orders_long (w : World) (va : Option Addr) (n vc : Nat) (hn : 200 < n) :
    Calls Try.prog 4 #[.slice va n vc] w fun e w' => e = .returned (.bool true) ∧ Below w.heap.size w w' := by
  have hl : decide ((200 : Int) < (n : Int)) = true := decide_eq_true (by omega)
  go_enter Try.func4, Try.ntmps4
  go_wp2_with fail
  go_ret
  exact ⟨rfl, Below.refl _ _⟩
theorem orders_any (w : World) (v : Value) (l : List C3) (h : callsAt w v l) :
    Calls Try.prog 4 #[v] w fun e w' => e = .returned (.bool true) ∧ Below w.heap.size w w' := by
  have h' := h
  obtain ⟨va, vc, rfl, _⟩ := h'
  by_cases hn : 200 < l.length
  · exact orders_long w va l.length vc hn
  · exact orders_walk w _ l h (by omega)
end Go.Proofs.Ytkmgbnklfnjfjaa.Ker
