import Derived.Test.YtkmgbnklfnjfjaaMA
/-! KernelPlaces (f5): the walk. -/
namespace Go.Proofs.Ytkmgbnklfnjfjaa.Ker
open Go.RowKit Go.Maps

theorem has_no (w : World) (v : Value) (xs : List Int) (x : Int) (h : intsAt w v xs) (hn : xs.length ≤ 100000) (hx : x ∉ xs) :
    Calls Try.prog 22 #[v, .int .i64 x] w fun e w' => e = .returned (.int .i64 (-1)) ∧ w = w' := by
  refine (has_int w v xs x h hn).mono ?_
  rintro e w' ⟨r, rfl, hr, rfl⟩
  rcases hr with ⟨rfl, _⟩ | ⟨k, _, hk⟩
  · exact ⟨rfl, rfl⟩
  · exact absurd (List.mem_of_getElem? hk) hx
/-- Before each call: the kernel behind the first j ones. -/
def PlRel (w : World) (l : List C3) (i : Value) (wr : World) : Prop := ∃ (j : Nat) (g : G), j ≤ l.length ∧ i = .int .i64 j ∧ Below w.heap.size w wr ∧ KRep w.heap.size w.heap.size g (afterF A0 (l.take j)) wr
/-- While the queues are looked through. -/
def PlSeen (w : World) (g : G) (a : A) (u1 u2 i : Value) (wr : World) : Prop := ∃ (k : Nat) (ps : List (Int × Int)), k ≤ 26 ∧ i = .int .i64 ((k : Int) - 5) ∧ ps = seenF a k ∧ Below w.heap.size w wr ∧ KRep w.heap.size w.heap.size g a wr ∧ Two w.heap.size wr u1 u2 ps
/-- While one queue is looked through. -/
def PlRow (w : World) (g : G) (a : A) (pre : List (Int × Int)) (i : Int) (qs : List Int) (BQ : Nat) (q u1 u2 n : Value) (wr : World) : Prop := ∃ (m : Nat) (ps : List (Int × Int)), m ≤ qs.length ∧ n = .int .i64 m ∧ ps = pre ++ (qs.take m).map (fun p => (p, i)) ∧ Below w.heap.size w wr ∧ KRep w.heap.size w.heap.size g a wr ∧
  Two w.heap.size wr u1 u2 ps ∧ wr.ownsRow BQ 3 1 q qs.length (qs.map fun p => .int .i64 p) ∧ sepB u1 q ∧ sepB u2 q
/-- While the packets are looked through. -/
def PlPack (w : World) (g : G) (a : A) (n : Nat) (u1 u2 : Value) (ps : List (Int × Int)) (i : Value) (wr : World) : Prop := ∃ m : Nat, m ≤ n ∧ i = .int .i64 ((m : Int) + 1) ∧ Below w.heap.size w wr ∧ KRep w.heap.size w.heap.size g a wr ∧ Two w.heap.size wr u1 u2 ps

set_option maxHeartbeats 4000000 in
set_option maxRecDepth 100000 in
theorem places_walk (w : World) (v : Value) (l : List C3) (h : callsAt w v l) (hn : l.length ≤ 120) :
    Calls Try.prog 5 #[v] w fun e w' => e = .returned (.bool true) ∧ Below w.heap.size w w' := by
  obtain ⟨i0, hi, hz0, hz1, hz2⟩ := info_parts info3
  obtain ⟨va, vc, rfl, hc⟩ := h
  have HC := Lib.hid hc
  have CN := Lib.hid (new_any w)
  have hl : decide ((120 : Int) < (l.length : Int)) = false := decide_eq_false (by omega)
  clear hc
  go_enter Try.func5, Try.ntmps5
  go_wp2_with (go_at_call 17; (with_reducible refine CN.out.mono ?_); rintro e w1 ⟨rfl, hb, hk⟩; have HB := Lib.hid hb; have HK := Lib.hid hk; clear hb hk)
  go_loopw [4] (fun i wr => PlRel w l i wr) (fun i _ => l.length - (intOf i).toNat)
  case atStart => exact ⟨0, G0 w.heap.size, Nat.zero_le _, rfl, HB.out, HK.out⟩
  case round =>
    obtain ⟨j, g, hj, rfl, hb, hk⟩ := hrel
    have gd : Good (afterF A0 (l.take j)) := good_after good0 _
    have hcl : (afterF A0 (l.take j)).calls = j := by rw [after_calls]; simp [A0]; omega
    by_cases hlt : j < l.length
    · obtain ⟨gb, o, c, cc, cd, rfl, hg, hlc, c0, c1, c2, c3, c4⟩ := HC.out j hlt
      have z0 : wr.cell? ⟨gb, o + j * 5, none⟩ = some (.int .i64 c.1) := (hb.cell (p := ⟨gb, _, none⟩) hg).trans c0
      have z1 : wr.cell? ⟨gb, o + j * 5 + 1, none⟩ = some (.int .i64 c.2.1) := (hb.cell (p := ⟨gb, _, none⟩) hg).trans c1
      have z2 : wr.cell? ⟨gb, o + j * 5 + 2, none⟩ = some (.int .i64 c.2.2) := (hb.cell (p := ⟨gb, _, none⟩) hg).trans c2
      have z3 : wr.cell? ⟨gb, o + j * 5 + 3, none⟩ = some (.int .i64 cc) := (hb.cell (p := ⟨gb, _, none⟩) hg).trans c3
      have z4 : wr.cell? ⟨gb, o + j * 5 + 4, none⟩ = some (.int .i64 cd) := (hb.cell (p := ⟨gb, _, none⟩) hg).trans c4
      have hdd : decide ((j : Int) < (l.length : Int)) = true := by simpa using hlt
      have C19 := Lib.hid (do_det w.heap.size w.heap.size g _ _ hk gd (by omega) c cc cd)
      have ht : (doF (afterF A0 (l.take j)) c).2.2 = afterF A0 (l.take (j + 1)) := by
        have : l.take (j + 1) = l.take j ++ [c] := by
          rw [List.getElem?_eq_getElem hlt] at hlc
          rw [List.take_succ_eq_append_getElem hlt]
          simp at hlc
          rw [hlc]
        rw [this, afterF_append]
      have HT := Lib.hid ht
      have HBR := Lib.hid hb
      clear hb hk hg c0 c1 c2 c3 c4 hlc gd hcl ht
      go_wp2_with (go_at_call 19; (with_reducible refine C19.out.mono ?_); rintro e w3 ⟨rfl, hb3, g3, h3⟩; have HB3 := Lib.hid hb3; have H3 := Lib.hid h3; clear hb3 h3)
      have HB3' := Lib.hid (HBR.out.trans HB3.out.low)
      have h3 := H3.out
      rw [HT.out] at h3
      have H3' := Lib.hid h3
      clear h3
      obtain ⟨a, ha⟩ : ∃ a, a = afterF A0 (l.take (j + 1)) := ⟨_, rfl⟩
      have gd : Good a := ha ▸ good_after good0 _
      have H3 := Lib.hid (ha ▸ H3'.out : KRep w.heap.size w.heap.size g3 a w3)
      have GD := Lib.hid gd
      have HA := Lib.hid ha
      clear H3' HT HB3 HBR C19 ha gd HB HK CN
      go_loopw [5, 6, 7] (fun u1 u2 i wq => PlSeen w g3 a u1 u2 i wq) (fun _ _ i _ => (26 - (intOf i + 5)).toNat)
      case atStart => exact ⟨0, [], by omega, rfl, rfl, HB3'.out, H3.out, Two.none _ _⟩
      case round =>
        obtain ⟨k, ps, hk26, rfl, hps, hb, hk, ht⟩ := hrel
        obtain ⟨ua1, uc1, rfl⟩ := own_form ht.fst
        obtain ⟨ua2, uc2, rfl⟩ := own_form ht.snd
        have hlp : ps.length ≤ 5200 := by rw [hps]; have := seen_len GD.out k; omega
        have HPS := Lib.hid hps
        clear hps
        by_cases hk2 : k < 26
        · have hd2 : decide ((k : Int) - 5 ≤ 20) = true := by simp; omega
          by_cases ho : a.owner ((k : Int) - 5)
          · have hql := GD.out.qlen ho
            obtain ⟨qs, hqs⟩ : ∃ qs, qs = a.q ((k : Int) - 5) := ⟨_, rfl⟩
            have Q := queue_some _ _ _ _ _ hk ((k : Int) - 5) ho (by omega) (fun p hp => (GD.out.qin _ ho p hp).1)
            rw [← hqs] at Q hql
            have C21 := Lib.hid Q
            have HO := Lib.hid ho
            have HQS := Lib.hid hqs
            have HBR := Lib.hid hb
            have HKR := Lib.hid hk
            have TR := Lib.hid ht
            clear Q ho hqs hb hk ht
            go_wp2_with (go_at_call 21; (with_reducible refine C21.out.mono ?_); rintro e w4 ⟨v3, rfl, hb4, ho4⟩; (obtain ⟨qa, qc, rfl⟩ := own_form ho4); have HB4 := Lib.hid (HBR.out.trans (hb4.mono HBR.out.size)); have K4 := Lib.hid (HKR.out.below hb4); have T4 := Lib.hid (TR.out.below hb4); have SQ1 := Lib.hid (sepB.new TR.out.fst ho4 (Nat.le_refl _)); have SQ2 := Lib.hid (sepB.new TR.out.snd ho4 (Nat.le_refl _)); have QR := Lib.hid ho4; clear hb4 ho4)
            obtain ⟨BQ, hBQ⟩ : ∃ BQ, BQ = wr.heap.size := ⟨_, rfl⟩
            rw [← hBQ] at QR
            clear hBQ C21 HBR HKR TR
            obtain ⟨pre, hpre⟩ : ∃ pre, pre = ps := ⟨_, rfl⟩
            have HPRE := Lib.hid hpre
            clear hpre
            go_loopw [5, 6, 10] (fun u1 u2 n wq => PlRow w g3 a pre ((k : Int) - 5) qs BQ (.slice qa qs.length qc) u1 u2 n wq) (fun _ _ n _ => qs.length - (intOf n).toNat)
            case atStart => exact ⟨0, ps, Nat.zero_le _, rfl, by simp [HPRE.out], HB4.out, K4.out, T4.out, QR.out, SQ1.out, SQ2.out⟩
            case round =>
              clear hlp HB4 K4 T4 QR SQ1 SQ2
              have HPS0 := Lib.hid (HPRE.out.trans HPS.out)
              clear HPRE HPS
              obtain ⟨m, ps, hm, rfl, hps, hb, hk, ht, hqr, hs1, hs2⟩ := hrel
              by_cases hlt3 : m < qs.length
              · have hd3 : decide ((m : Int) < (qs.length : Int)) = true := by simpa using hlt3
                have szr : w.heap.size ≤ wr.heap.size := hb.size
                have hlp : ps.length ≤ 5400 := by
                  have h1 := seen_len GD.out k
                  rw [hps, HPS0.out, List.length_append, List.length_map, List.length_take]
                  omega
                obtain ⟨gq, capq, hqv, _, _, _, _, _, _, _, hqc⟩ := own_cell hqr (by omega)
                obtain ⟨x, hx⟩ : ∃ x, qs[m]? = some x := ⟨_, List.getElem?_eq_getElem hlt3⟩
                have hqx := hqc m hlt3
                rw [List.getElem?_map, hx] at hqx
                have hfr : x ∉ ps.map fun p => p.1 := by
                  rw [hps, HPS0.out, HQS.out]
                  exact seen_fresh GD.out k m _ x rfl HO.out (by rw [← HQS.out]; exact hx)
                have C22 := Lib.hid (has_no wr u5 _ x ht.ints (by rw [List.length_map]; omega) hfr)
                obtain ⟨ua1, uc1, rfl⟩ := own_form ht.fst
                obtain ⟨ua2, uc2, rfl⟩ := own_form ht.snd
                simp only [Value.slice.injEq] at hqv
                obtain ⟨rfl, -, rfl⟩ := hqv
                have T := Lib.hid ht
                have QR := Lib.hid hqr
                have SQ1 := Lib.hid hs1
                have SQ2 := Lib.hid hs2
                have HB := Lib.hid hb
                have HK := Lib.hid hk
                have HPS := Lib.hid hps
                have HX := Lib.hid hx
                clear ht hqr hs1 hs2 hb hk hps hx hfr hqc
                simp only [Option.map_some] at hqx
                go_wp2_with (first | (go_at_call 22; (with_reducible refine C22.out.mono ?_); rintro e w' ⟨rfl, rfl⟩) | (at_builtin; refine wpList_append_own_at _ rfl _ _ 23 rfl w.heap.size 3 i0 (.int .i64 0) 1 8 Try.underlying23 hi hz0 hz1 hz2 rfl (by decide) (.slice ua1 ps.length uc1) ps.length _ rfl (T.out.fst.alloc _) ⟨wr.heap.size, 0, none⟩ 1 1 [.int .i64 x] rfl rfl (cell_one_new _ _ _) (by simp [Value.oneCell']) (by unfold maxLen; omega) (by omega) (by simp; omega) ?_; intro v1 w4 ho4 hg4 hnil4 hloc4; have HG4 := Lib.hid ((World.grownBy_alloc _ _ _).trans hg4); have F4 := Lib.hid ho4; (have hl4 : v1.ownBlock = (Value.slice ua1 ps.length uc1).ownBlock ∨ v1.ownBlock = some (wr.heap.size + 1) := by simpa using hloc4); have S4 := Lib.hid (grown_row (u1 := .slice ua1 ps.length uc1) T.out.snd HG4.out T.out.sep); have SP4 := Lib.hid (sepB.grow T.out.sep T.out.snd hl4); have Q4 := Lib.hid (grown_row (u1 := .slice ua1 ps.length uc1) QR.out HG4.out SQ1.out); have SQ4 := Lib.hid (sepB.grow SQ1.out QR.out hl4); have K4 := Lib.hid (grown_ker (u1 := .slice ua1 ps.length uc1) HK.out T.out.fst HG4.out); have BL4 := Lib.hid (HB.out.trans ((Below.refl _ _).grown HG4.out HB.out.size (fun k hk => (own_block T.out.fst hk).1))); have sz4 : w.heap.size ≤ w4.heap.size := BL4.out.size; clear hl4 ho4 hg4 hnil4 hloc4) | (at_builtin; refine wpList_append_own_at _ rfl _ _ 23 rfl w.heap.size 3 i0 (.int .i64 0) 1 8 Try.underlying23 hi hz0 hz1 hz2 rfl (by decide) (.slice ua2 ps.length uc2) ps.length _ rfl (S4.out.alloc _) ⟨w4.heap.size, 0, none⟩ 1 1 [.int .i64 ((k : Int) - 5)] rfl rfl (cell_one_new _ _ _) (by simp [Value.oneCell']) (by unfold maxLen; omega) (by omega) (by simp; omega) ?_; intro v2 w6 ho6 hg6 hnil6 hloc6; have HG6 := Lib.hid ((World.grownBy_alloc _ _ _).trans hg6); have S6 := Lib.hid ho6; (have hl6 : v2.ownBlock = (Value.slice ua2 ps.length uc2).ownBlock ∨ v2.ownBlock = some (w4.heap.size + 1) := by simpa using hloc6); have F6 := Lib.hid (grown_row (u1 := .slice ua2 ps.length uc2) F4.out HG6.out SP4.out.symm); have SP6 := Lib.hid (sepB.grow SP4.out.symm F4.out hl6); have Q6 := Lib.hid (grown_row (u1 := .slice ua2 ps.length uc2) Q4.out HG6.out SQ2.out); have SQ6 := Lib.hid (sepB.grow SQ2.out Q4.out hl6); have K6 := Lib.hid (grown_ker (u1 := .slice ua2 ps.length uc2) K4.out S4.out HG6.out); have BL6 := Lib.hid (BL4.out.trans ((Below.refl _ _).grown HG6.out sz4 (fun k hk => (own_block S4.out hk).1))); clear hl6 ho6 hg6 hnil6 hloc6))
                go_roundw
                case rel =>
                  refine ⟨m + 1, ps ++ [(x, (k : Int) - 5)], by omega, by go_num, ?_, BL6.out, K6.out, ⟨?_, ?_, SP6.out.symm⟩, Q6.out, SQ4.out, SQ6.out⟩
                  · have h := HX.out
                    rw [List.getElem?_eq_getElem hlt3] at h
                    rw [List.take_succ_eq_append_getElem hlt3, HPS.out]
                    simp at h
                    simp [h]
                  · simpa using F6.out
                  · simpa using S6.out
                case measure => simp [intOf]; omega
              · have hmn : m = qs.length := by omega
                subst hmn
                have hd3 : decide ((qs.length : Int) < (qs.length : Int)) = false := by simp
                have T := Lib.hid ht
                have HB := Lib.hid hb
                have HK := Lib.hid hk
                have HPS := Lib.hid hps
                clear ht hqr hs1 hs2 hb hk hps
                go_wp2_with fail
                go_roundw
                case rel =>
                  refine ⟨k + 1, ps, by omega, by go_num, ?_, HB.out, HK.out, T.out⟩
                  rw [HPS.out, List.take_length, seenF, if_pos HO.out, ← HQS.out, HPS0.out]
                case measure => simp [intOf]; omega
          · have C21 := Lib.hid (queue_none _ _ _ _ _ hk _ ho)
            have HO := Lib.hid ho
            have HBR := Lib.hid hb
            have HKR := Lib.hid hk
            have TR := Lib.hid ht
            clear ho hb hk ht
            go_wp2_with (go_at_call 21; (with_reducible refine C21.out.mono ?_); rintro e w4 ⟨rfl, rfl⟩)
            go_roundw
            case rel =>
              refine ⟨k + 1, ps, by omega, by go_num, ?_, HBR.out, HKR.out, TR.out⟩
              rw [HPS.out, seenF, if_neg HO.out, List.append_nil]
            case measure => simp [intOf]; omega
        · have hk3 : k = 26 := by omega
          subst hk3
          rw [show (((26 : Nat) : Int) - 5) = 21 from rfl]
          have T := Lib.hid ht
          have HB := Lib.hid hb
          have HK := Lib.hid hk
          clear ht hb hk H3 HB3'
          go_wp2_with fail
          go_loopw [11] (fun i wq => PlPack w g3 a l.length (.slice ua1 ps.length uc1) (.slice ua2 ps.length uc2) ps i wq) (fun i _ => (l.length + 1 - intOf i).toNat)
          case atStart => exact ⟨0, Nat.zero_le _, rfl, HB.out, HK.out, T.out⟩
          case round =>
            clear T HB HK
            obtain ⟨m, hm, rfl, hb, hk, ht⟩ := hrel
            by_cases hlt4 : m < l.length
            · have hd4 : decide ((m : Int) + 1 ≤ (l.length : Int)) = true := by simp; omega
              obtain ⟨x, hx⟩ : ∃ x : Int, x = (m : Int) + 1 := ⟨_, rfl⟩
              have hxu : x ≤ 120 := by omega
              have hxl : 1 ≤ x := by omega
              have HX := Lib.hid hx
              by_cases hp : x ∈ a.pids
              · skip
                have P := getp_some _ _ _ _ _ hk x hp
                unfold pagg at P
                rw [hx] at P
                have C20 := Lib.hid P
                have HB := Lib.hid hb
                have HK := Lib.hid hk
                have T := Lib.hid ht
                have HP := Lib.hid hp
                clear P hb hk ht hp hx hxu hxl
                go_wp2_with (go_at_call 20; (with_reducible refine C20.out.mono ?_); rintro e w5 ⟨rfl, hb5⟩; have HB5 := Lib.hid hb5; clear hb5)
                have A5 := Lib.hid (HB5.out.alloc HB5.out.size (.cells #[.int .i64 ((m : Int) + 1), .int .i64 (a.pk ((m : Int) + 1)).ty, .int .i64 (a.pk ((m : Int) + 1)).res, .int .i64 (a.pk ((m : Int) + 1)).own, .int .i64 (a.pk ((m : Int) + 1)).at_, .int .i64 (a.pk ((m : Int) + 1)).frm, .int .i64 (a.pk ((m : Int) + 1)).wth] 44))
                have T5 := Lib.hid (T.out.below A5.out)
                have K5 := Lib.hid (HK.out.below A5.out)
                have B5 := Lib.hid (HB.out.trans (A5.out.mono HB.out.size))
                have I5 := Lib.hid T5.out.ints
                refine (has_int _ _ _ ((m : Int) + 1) I5.out (by rw [List.length_map, HPS.out]; have := seen_len GD.out 26; omega)).mono ?_
                rintro e w' ⟨r, rfl, hr, rfl⟩
                rw [HPS.out] at hr
                rcases seen_end GD.out _ r hr with ⟨hn1, rfl⟩ | ⟨hn1, hat, rfl⟩ | ⟨hn1, hat, hw, n, rfl, hnl, hn2⟩
                · rw [← HX.out] at hn1
                  exact absurd HP.out hn1
                · have hatb : ((a.pk ((m : Int) + 1)).at_ == 0) = true := by simp [hat]
                  clear hat hn1 hr
                  go_wp2_with fail
                  go_quiet (fail)
                  go_wp2_with fail
                  go_roundw
                  case rel => exact ⟨m + 1, by omega, by go_num, below_drewN B5.out _, K5.out.keep (fun _ _ => rfl), T5.out.drewN _⟩
                  case measure => simp [intOf]; omega
                · have hatb : ((a.pk ((m : Int) + 1)).at_ == 0) = false := by simp [hat]
                  have hwb : ((a.pk ((m : Int) + 1)).wth != 0) = false := by simp [hw]
                  have hge : decide ((0 : Int) ≤ (n : Int)) = true := by simp
                  have hltn : decide ((n : Int) < 0) = false := by simp
                  rw [← HPS.out] at hnl hn2
                  obtain ⟨g2, cap2, hv2, _, _, _, _, _, _, _, hc2⟩ := own_cell T5.out.snd (by omega)
                  have hcn := hc2 n hnl
                  rw [List.getElem?_map] at hcn hn2
                  obtain ⟨pr, hpr, hpr2⟩ := Option.map_eq_some_iff.1 hn2
                  rw [hpr] at hcn
                  simp only [Option.map_some] at hcn
                  rw [hpr2] at hcn
                  simp only [Value.slice.injEq] at hv2
                  obtain ⟨rfl, -, rfl⟩ := hv2
                  clear hat hn1 hr hw hc2 hn2 hpr hpr2
                  go_wp2_with fail
                  go_quiet (fail)
                  go_wp2_with fail
                  go_roundw
                  case rel => exact ⟨m + 1, by omega, by go_num, below_drewN B5.out _, K5.out.keep (fun _ _ => rfl), T5.out.drewN _⟩
                  case measure => simp [intOf]; omega
              · skip
                have P := getp_none _ _ _ _ _ hk x hp
                unfold pagg at P
                rw [hx] at P
                have C20 := Lib.hid P
                have HB := Lib.hid hb
                have HK := Lib.hid hk
                have T := Lib.hid ht
                have HP := Lib.hid hp
                clear P hb hk ht hp hx hxu hxl
                go_wp2_with (go_at_call 20; (with_reducible refine C20.out.mono ?_); rintro e w5 ⟨rfl, hb5⟩; have HB5 := Lib.hid hb5; clear hb5)
                have A5 := Lib.hid (HB5.out.alloc HB5.out.size (.cells #[.int .i64 0, .int .i64 0, .int .i64 0, .int .i64 0, .int .i64 0, .int .i64 0, .int .i64 0] 44))
                have T5 := Lib.hid (T.out.below A5.out)
                have K5 := Lib.hid (HK.out.below A5.out)
                have B5 := Lib.hid (HB.out.trans (A5.out.mono HB.out.size))
                have I5 := Lib.hid T5.out.ints
                refine (has_int _ _ _ ((m : Int) + 1) I5.out (by rw [List.length_map, HPS.out]; have := seen_len GD.out 26; omega)).mono ?_
                rintro e w' ⟨r, rfl, hr, rfl⟩
                rw [HPS.out] at hr
                rcases seen_end GD.out _ r hr with ⟨hn1, rfl⟩ | ⟨hn1, hat, rfl⟩ | ⟨hn1, hat, hw, n, rfl, hnl, hn2⟩
                · clear hn1 hr
                  go_wp2_with fail
                  go_quiet (fail)
                  go_wp2_with fail
                  go_roundw
                  case rel => exact ⟨m + 1, by omega, by go_num, below_drewN B5.out _, K5.out.keep (fun _ _ => rfl), T5.out.drewN _⟩
                  case measure => simp [intOf]; omega
                · rw [← HX.out] at hn1
                  exact absurd hn1 HP.out
                · rw [← HX.out] at hn1
                  exact absurd hn1 HP.out
            · have hmn : m = l.length := by omega
              subst hmn
              have hd4 : decide ((l.length : Int) + 1 ≤ (l.length : Int)) = false := by simp; omega
              have HB := Lib.hid hb
              have HK := Lib.hid hk
              clear hb hk ht
              go_wp2_with fail
              go_roundw
              case rel => exact ⟨j + 1, g3, by omega, by go_num, HB.out, by rw [← HA.out]; exact HK.out⟩
              case measure => simp [intOf]; omega
    · have hjn : j = l.length := by omega
      subst hjn
      have hdd : decide ((l.length : Int) < (l.length : Int)) = false := by simp
      have HB1 := Lib.hid hb
      clear hb hk gd hcl
      go_wp2_with (go_at_call 16; (with_reducible refine (awake_any _).mono ?_); rintro e w4 ⟨rfl, hb4⟩; have BW := Lib.hid (HB1.out.trans (hb4.mono HB1.out.size)); clear hb4)
      go_ret
      exact ⟨rfl, BW.out⟩
set_option maxHeartbeats 1000000 in
set_option maxRecDepth 100000 in
theorem places_long (w : World) (va : Option Addr) (n vc : Nat) (hn : 120 < n) :
    Calls Try.prog 5 #[.slice va n vc] w fun e w' => e = .returned (.bool true) ∧ Below w.heap.size w w' := by
  have hl : decide ((120 : Int) < (n : Int)) = true := decide_eq_true (by omega)
  go_enter Try.func5, Try.ntmps5
  go_wp2_with fail
  go_ret
  exact ⟨rfl, Below.refl _ _⟩
theorem places_any (w : World) (v : Value) (l : List C3) (h : callsAt w v l) :
    Calls Try.prog 5 #[v] w fun e w' => e = .returned (.bool true) ∧ Below w.heap.size w w' := by
  have h' := h
  obtain ⟨va, vc, rfl, _⟩ := h'
  by_cases hn : 120 < l.length
  · exact places_long w va l.length vc hn
  · exact places_walk w _ l h (by omega)
end Go.Proofs.Ytkmgbnklfnjfjaa.Ker
