import Derived.Test.YtkmgbnklfnjfjaaUD
/-! KernelSteady (f9): the walk. -/
namespace Go.Proofs.Ytkmgbnklfnjfjaa.Ker
open Go.RowKit Go.Maps

/-- Before each call: both kernels behind the first j ones; the specification's had only those without an error, and the devices'. -/
def SteadyRel (w : World) (xb : Nat) (l : List C3) (i : Value) (wr : World) : Prop := ∃ (j : Nat) (g : G) (h : RG) (b : A) (l' : List Int), j ≤ l.length ∧ i = .int .i64 j ∧ Below w.heap.size w wr ∧ Both w.heap.size w.heap.size xb g h (afterF A0 (l.take j)) (W b l') wr ∧ Alike (afterF A0 (l.take j)) b ∧ Good b ∧ Good2 b ∧ (0 ≤ b.calls ∧ b.calls ≤ j) ∧ l'.Perm b.tids ∧ Srt l'
theorem perm_alike {a b : A} (h : Alike a b) {l : List Int} (hl : l.Perm b.tids) : l.Perm a.tids := by
  obtain ⟨_, _, rfl⟩ := h
  exact hl

set_option maxHeartbeats 4000000 in
set_option maxRecDepth 100000 in
theorem steady_walk (w : World) (v : Value) (l : List C3) (h : callsAt w v l) (hn : l.length ≤ 100) :
    Calls Try.prog 9 #[v] w fun e w' => e = .returned (.bool true) ∧ Below w.heap.size w w' := by
  obtain ⟨va, vc, rfl, hc⟩ := h
  have HC := Lib.hid hc
  have CN := Lib.hid (new_any w)
  have hl : decide ((100 : Int) < (l.length : Int)) = false := decide_eq_false (by omega)
  clear hc
  go_enter Try.func9, Try.ntmps9
  go_wp2_with (go_at_call 17; (with_reducible refine CN.out.mono ?_); rintro e w1 ⟨rfl, hb, hk⟩; have HB := Lib.hid hb; have HK := Lib.hid hk; clear hb hk)
  have HBO := Lib.hid (both0 HB.out HK.out)
  have HB2 := Lib.hid (HB.out.alloc HB.out.size (.cells rz 63))
  have HS := Lib.hid (show SteadyRel w w1.heap.size l (.int .i64 0) (w1.alloc (.cells rz 63)) from ⟨0, _, _, A0, [], Nat.zero_le _, rfl, HB2.out, HBO.out, Alike.refl _, good0, good2_0, ⟨by decide, by decide⟩, List.Perm.nil, List.Pairwise.nil⟩)
  go_loopw [5] (fun i wr => SteadyRel w w1.heap.size l i wr) (fun i _ => l.length - (intOf i).toNat)
  case atStart => exact HS.out
  case round =>
    clear HS HBO HB2 HB HK CN
    obtain ⟨j, g, h, b, l', hj, rfl, hb, hbo, hal, gb, g2, hcb, hp, hs⟩ := hrel
    have gd : Good (afterF A0 (l.take j)) := good_after good0 _
    have hcl : (afterF A0 (l.take j)).calls = j := by rw [after_calls]; simp [A0]; omega
    by_cases hlt : j < l.length
    · obtain ⟨gb', o, c, cc, cd, rfl, hg, hlc, c0, c1, c2, c3, c4⟩ := HC.out j hlt
      have ZZ := Lib.hid (fun (wx : World) (hbx : Below w.heap.size w wx) => And.intro ((hbx.cell (p := ⟨gb', o + j * 5, none⟩) hg).trans c0) (And.intro ((hbx.cell (p := ⟨gb', o + j * 5 + 1, none⟩) hg).trans c1) (And.intro ((hbx.cell (p := ⟨gb', o + j * 5 + 2, none⟩) hg).trans c2) (And.intro ((hbx.cell (p := ⟨gb', o + j * 5 + 3, none⟩) hg).trans c3) ((hbx.cell (p := ⟨gb', o + j * 5 + 4, none⟩) hg).trans c4)))))
      obtain ⟨z0, z1, z2, z3, z4⟩ := ZZ.out wr hb
      have hdd : decide ((j : Int) < (l.length : Int)) = true := by simpa using hlt
      obtain ⟨a, ha⟩ : ∃ a, a = afterF A0 (l.take j) := ⟨_, rfl⟩
      rw [← ha] at gd hcl hbo hal
      have C19 := Lib.hid (do_det w.heap.size w.heap.size g _ _ hbo.k gd (by omega) c cc cd)
      have c26 := fun (wx : World) (r : RRep w.heap.size w1.heap.size h (W b l') wx) => rdo_srt w.heap.size w1.heap.size h b l' wx r hp hs gb g2 (by omega) c cc cd
      have ald := alike_do hal c
      have std := stays_do a c
      obtain ⟨s, hs0⟩ : ∃ s, s = doF a c := ⟨_, rfl⟩
      obtain ⟨t, ht0⟩ : ∃ t, t = doF b c := ⟨_, rfl⟩
      have gd1 := good_doF gd c
      have gb1 := good_doF gb c
      have g21 := good2_do g2 gb c
      have hcc := doF_calls b c
      have hT : afterF A0 (l.take (j + 1)) = s.2.2 := by rw [take_next hlc, afterF_append, ← ha, hs0]
      rw [← hs0] at C19 gd1 ald std
      rw [← ht0] at gb1 g21 ald c26 hcc
      obtain ⟨sv, se, a1⟩ := s
      obtain ⟨tv, te, b1⟩ := t
      simp only at gd1 gb1 g21 hT std hcc c26
      obtain ⟨e1, e2, ald⟩ := ald
      simp only at e1 e2 ald
      have C26 := Lib.hid c26
      have C27 := Lib.hid (fun (wx : World) (g3 : G) (h3 : RG) (b2 : A) (l3 : List Int) (bo : Both w.heap.size w.heap.size w1.heap.size g3 h3 a1 (W b2 l3) wx) (hal2 : Alike a1 b2) (gb2 : Good b2) (g22 : Good2 b2) (hp3 : l3.Perm b2.tids) (hs3 : Srt l3) =>
        same_any w.heap.size w.heap.size w1.heap.size g3 h3 a1 b2 l3 wx bo.k bo.r hal2 (perm_alike hal2 hp3) hs3 gd1 gb2 g22)
      have HT := Lib.hid hT
      have HBR := Lib.hid hb
      have HBO := Lib.hid hbo
      have HAL := Lib.hid ald
      have GB1 := Lib.hid gb1
      have G21 := Lib.hid g21
      have GB := Lib.hid gb
      have G2 := Lib.hid g2
      have HP := Lib.hid hp
      have HS := Lib.hid hs
      have HAO := Lib.hid hal
      have HST := Lib.hid std
      have HCC := Lib.hid hcc
      clear hb hbo hp hs hg c0 c1 c2 c3 c4 hlc gd g2 hcl ha hs0 ht0 gd1 gb1 g21 hT ald std gb hal c26 hcc e1 e2
      by_cases hse : se = 0
      · subst hse
        go_wp2_with (first
          | (go_at_call 19; (with_reducible refine C19.out.mono ?_); rintro e w3 ⟨rfl, hb3, g3, k3⟩; (obtain ⟨y0, y1, y2, y3, y4⟩ := ZZ.out w3 (HBR.out.trans hb3.low)); have HB3 := Lib.hid (HBR.out.trans hb3.low); have BO3 := Lib.hid (HBO.out.ker hb3 k3); clear hb3 k3)
          | (go_at_call 26; (with_reducible refine (C26.out _ BO3.out.r).mono ?_); rintro e w4 ⟨rfl, h4, l4, hp4, hs4, hl4⟩; have HB4 := Lib.hid (HB3.out.trans (hl4.low BO3.out.r)); have BO4 := Lib.hid (BO3.out.ref hl4); have HP4 := Lib.hid hp4; have HS4 := Lib.hid hs4; clear hp4 hs4 hl4)
          | (go_at_call 27; (with_reducible refine (C27.out _ _ _ _ _ BO4.out HAL.out GB1.out G21.out HP4.out HS4.out).mono ?_); rintro e w7 ⟨rfl, hb7⟩; have HB7 := Lib.hid (HB4.out.trans (hb7.mono HB4.out.size)); have BO7 := Lib.hid (BO4.out.below hb7); clear hb7))
        go_roundw
        case rel => exact ⟨j + 1, g3, h4, b1, l4, by omega, by go_num, HB7.out, by rw [HT.out]; exact BO7.out, by rw [HT.out]; exact HAL.out, GB1.out, G21.out, by have := HCC.out; omega, HP4.out, HS4.out⟩
        case measure => simp [intOf]; omega
      · have hsb : (se == 0) = false := by simpa using hse
        by_cases h12 : c.1 = 12
        · have hdb : (c.1 == 12) = true := by simpa using h12
          clear hse h12
          go_wp2_with (first
            | (go_at_call 19; (with_reducible refine C19.out.mono ?_); rintro e w3 ⟨rfl, hb3, g3, k3⟩; (obtain ⟨y0, y1, y2, y3, y4⟩ := ZZ.out w3 (HBR.out.trans hb3.low)); have HB3 := Lib.hid (HBR.out.trans hb3.low); have BO3 := Lib.hid (HBO.out.ker hb3 k3); clear hb3 k3)
            | (go_at_call 26; (with_reducible refine (C26.out _ BO3.out.r).mono ?_); rintro e w4 ⟨rfl, h4, l4, hp4, hs4, hl4⟩; have HB4 := Lib.hid (HB3.out.trans (hl4.low BO3.out.r)); have BO4 := Lib.hid (BO3.out.ref hl4); have HP4 := Lib.hid hp4; have HS4 := Lib.hid hs4; clear hp4 hs4 hl4)
            | (go_at_call 27; (with_reducible refine (C27.out _ _ _ _ _ BO4.out HAL.out GB1.out G21.out HP4.out HS4.out).mono ?_); rintro e w7 ⟨rfl, hb7⟩; have HB7 := Lib.hid (HB4.out.trans (hb7.mono HB4.out.size)); have BO7 := Lib.hid (BO4.out.below hb7); clear hb7))
          go_roundw
          case rel => exact ⟨j + 1, g3, h4, b1, l4, by omega, by go_num, HB7.out, by rw [HT.out]; exact BO7.out, by rw [HT.out]; exact HAL.out, GB1.out, G21.out, by have := HCC.out; omega, HP4.out, HS4.out⟩
          case measure => simp [intOf]; omega
        · have hdb : (c.1 == 12) = false := by simpa using h12
          have AL2 := Lib.hid ((HST.out h12 hse).symm.trans HAO.out)
          clear hse h12
          go_wp2_with (first
            | (go_at_call 19; (with_reducible refine C19.out.mono ?_); rintro e w3 ⟨rfl, hb3, g3, k3⟩; (obtain ⟨y0, y1, y2, y3, y4⟩ := ZZ.out w3 (HBR.out.trans hb3.low)); have HB3 := Lib.hid (HBR.out.trans hb3.low); have BO3 := Lib.hid (HBO.out.ker hb3 k3); clear hb3 k3)
            | (go_at_call 27; (with_reducible refine (C27.out _ _ _ _ _ BO3.out AL2.out GB.out G2.out HP.out HS.out).mono ?_); rintro e w7 ⟨rfl, hb7⟩; have HB7 := Lib.hid (HB3.out.trans (hb7.mono HB3.out.size)); have BO7 := Lib.hid (BO3.out.below hb7); clear hb7))
          go_roundw
          case rel => exact ⟨j + 1, g3, h, b, l', by omega, by go_num, HB7.out, by rw [HT.out]; exact BO7.out, by rw [HT.out]; exact AL2.out, GB.out, G2.out, by omega, HP.out, HS.out⟩
          case measure => simp [intOf]; omega
    · have hjn : j = l.length := by omega
      subst hjn
      have hdd : decide ((l.length : Int) < (l.length : Int)) = false := by simp
      have HBR := Lib.hid hb
      clear hb hbo hp hs gd g2 hcl hal gb hcb
      go_wp2_with (go_at_call 16; (with_reducible refine (awake_any _).mono ?_); rintro e w4 ⟨rfl, hb4⟩; have BW := Lib.hid (HBR.out.trans (hb4.mono HBR.out.size)); clear hb4)
      go_ret
      exact ⟨rfl, BW.out⟩
set_option maxHeartbeats 1000000 in
set_option maxRecDepth 100000 in
theorem steady_long (w : World) (va : Option Addr) (n vc : Nat) (hn : 100 < n) :
    Calls Try.prog 9 #[.slice va n vc] w fun e w' => e = .returned (.bool true) ∧ Below w.heap.size w w' := by
  have hl : decide ((100 : Int) < (n : Int)) = true := decide_eq_true (by omega)
  go_enter Try.func9, Try.ntmps9
  go_wp2_with fail
  go_ret
  exact ⟨rfl, Below.refl _ _⟩
theorem steady_any (w : World) (v : Value) (l : List C3) (h : callsAt w v l) :
    Calls Try.prog 9 #[v] w fun e w' => e = .returned (.bool true) ∧ Below w.heap.size w w' := by
  have h' := h
  obtain ⟨va, vc, rfl, _⟩ := h'
  by_cases hn : 100 < l.length
  · exact steady_long w va l.length vc hn
  · exact steady_walk w _ l h (by omega)
end Go.Proofs.Ytkmgbnklfnjfjaa.Ker
