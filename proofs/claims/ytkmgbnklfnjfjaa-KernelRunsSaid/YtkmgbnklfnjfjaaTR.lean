import Derived.Test.YtkmgbnklfnjfjaaTS
import Derived.Test.YtkmgbnklfnjfjaaMB
/-! KernelRuns (f7): the walk. -/
namespace Go.Proofs.Ytkmgbnklfnjfjaa.Ker
open Go.RowKit Go.Maps

theorem flatT_get : ∀ (L : List TE) (k : Nat), (L.flatMap encT)[k]? = (L[k / 7]?).bind fun x => (encT x)[k % 7]?
  | [], k => by simp
  | x :: L, k => by
    have e : (x :: L).flatMap encT = encT x ++ L.flatMap encT := rfl
    have hl : (encT x).length = 7 := rfl
    rw [e]
    by_cases hk : k < 7
    · rw [List.getElem?_append_left (by omega), show k / 7 = 0 from by omega, show k % 7 = k from by omega]
      rfl
    · rw [List.getElem?_append_right (by omega), hl, flatT_get L, show k / 7 = (k - 7) / 7 + 1 from by omega, show k % 7 = (k - 7) % 7 from by omega]
      rfl
/-- The cells of one task in the row. -/
theorem te_cells {B : Nat} {w : World} {v : Value} {L : List TE} (h : w.ownsRow B 55 7 v L.length (L.flatMap encT)) {n : Nat} {x : TE} (hx : L[n]? = some x) :
    ∃ g c, v = .slice (some ⟨g, 0, none⟩) L.length c ∧ ∀ j, j < 7 → w.cell? ⟨g, n * 7 + j, none⟩ = (encT x)[j]? := by
  have hj := (List.getElem?_eq_some_iff.1 hx).1
  rcases h.2 with ⟨_, h0⟩ | ⟨g, cap, cur, rfl, hb, hg, h1, h2, h3, h4⟩
  · omega
  · refine ⟨g, cap, rfl, fun j hj7 => ?_⟩
    have hk : n * 7 + j < L.length * 7 := by omega
    rw [cell_of hg]
    have h5 : cur[n * 7 + j]? = (L.flatMap encT)[n * 7 + j]? := by
      rw [← h4, List.getElem?_take_of_lt hk, Array.getElem?_toList]
    rw [h5, flatT_get, show (n * 7 + j) / 7 = n from by omega, show (n * 7 + j) % 7 = j from by omega, hx]
    rfl
def priOf (a : A) (own : Int) (l : List Int) : Int := if own ∈ l then (a.tk own).pri else 0
theorem run_pri {a : A} (gd : Good a) {l : List Int} (hl : l.Perm a.tids) {own : Int} (ho : own = runF a) : ((own = 0 ∧ priOf a own l = 0 ∧ ∀ i ∈ a.tids, runnable (a.tk i) = false) ∨ (own ≠ 0 ∧ own ∈ a.tids ∧ priOf a own l ≠ 0 ∧ (a.tk own).held = false ∧ (a.tk own).waiting = false)) ∧ ∀ i ∈ a.tids, (a.tk i).held = false → (a.tk i).waiting = false → ¬ priOf a own l < (a.tk i).pri := by
  have h := runF_is gd
  rw [← ho] at h
  rcases h with ⟨rfl, h⟩ | ⟨h1, h2, h3, h4⟩
  · have hn : ∀ i ∈ a.tids, runnable (a.tk i) = false := fun i hi => by
      cases hr : runnable (a.tk i) with
      | false => rfl
      | true => have := h i hi hr; have := gd.prng i hi; omega
    have h0 : (0 : Int) ∉ a.tids := fun hm => by have := gd.trng 0 hm; omega
    refine ⟨.inl ⟨rfl, by unfold priOf; rw [if_neg (fun hm => h0 (hl.mem_iff.1 hm))], hn⟩, fun i hi hh hw => ?_⟩
    have := hn i hi
    unfold runnable at this
    rw [hh, hw] at this
    cases this
  · have h5 := gd.trng own h1
    have h6 := gd.prng own h1
    have hp : priOf a own l = (a.tk own).pri := by unfold priOf; rw [if_pos (hl.mem_iff.2 h1)]
    have h2' := h2
    unfold runnable at h2'
    simp at h2'
    refine ⟨.inr ⟨by omega, h1, by omega, h2'.1, h2'.2⟩, fun i hi hh hw => ?_⟩
    have := h4 i hi (by unfold runnable; rw [hh, hw]; rfl)
    omega
theorem priOf_snoc (a : A) (own : Int) (l : List Int) (i : Int) : priOf a own (l ++ [i]) = if i = own then (a.tk own).pri else priOf a own l := by
  unfold priOf
  by_cases h : i = own
  · subst h; simp
  · rw [if_neg h]
    by_cases h2 : own ∈ l
    · rw [if_pos h2, if_pos (by simp [h2])]
    · rw [if_neg h2, if_neg (by simp [h2]; exact fun e => h e.symm)]

set_option maxHeartbeats 4000000 in
set_option maxRecDepth 100000 in
theorem runs_walk (w : World) (v : Value) (l : List C3) (h : callsAt w v l) (hn : l.length ≤ 200) :
    Calls Try.prog 7 #[v] w fun e w' => e = .returned (.bool true) ∧ Below w.heap.size w w' := by
  obtain ⟨va, vc, rfl, hc⟩ := h
  have HC := Lib.hid hc
  have CN := Lib.hid (new_any w)
  have hl : decide ((200 : Int) < (l.length : Int)) = false := decide_eq_false (by omega)
  clear hc
  go_enter Try.func7, Try.ntmps7
  go_wp2_with (go_at_call 17; (with_reducible refine CN.out.mono ?_); rintro e w1 ⟨rfl, hb, hk⟩; have HB := Lib.hid hb; have HK := Lib.hid hk; clear hb hk)
  go_loopw [4] (fun i wr => PlRel w l i wr) (fun i _ => l.length - (intOf i).toNat)
  case atStart => exact ⟨0, G0 w.heap.size, Nat.zero_le _, rfl, HB.out, HK.out⟩
  case round =>
    obtain ⟨j, g, hj, rfl, hb, hk⟩ := hrel
    have gd : Good (afterF A0 (l.take j)) := good_after good0 _
    have hcl : (afterF A0 (l.take j)).calls = j := by rw [after_calls]; simp [A0]; omega
    by_cases hlt : j < l.length
    · obtain ⟨gb, o, c, cc, cd, rfl, hg, hlc, c0, c1, c2, c3, c4⟩ := HC.out j hlt
      have z0 : wr.cell? ⟨gb, o + j * 5, none⟩ = some (.int .i64 c.1) := (hb.cell (p := ⟨gb, _, none⟩) hg).trans c0
      have z1 : wr.cell? ⟨gb, o + j * 5 + 1, none⟩ = some (.int .i64 c.2.1) := (hb.cell (p := ⟨gb, _, none⟩) hg).trans c1
      have z2 : wr.cell? ⟨gb, o + j * 5 + 2, none⟩ = some (.int .i64 c.2.2) := (hb.cell (p := ⟨gb, _, none⟩) hg).trans c2
      have z3 : wr.cell? ⟨gb, o + j * 5 + 3, none⟩ = some (.int .i64 cc) := (hb.cell (p := ⟨gb, _, none⟩) hg).trans c3
      have z4 : wr.cell? ⟨gb, o + j * 5 + 4, none⟩ = some (.int .i64 cd) := (hb.cell (p := ⟨gb, _, none⟩) hg).trans c4
      have hdd : decide ((j : Int) < (l.length : Int)) = true := by simpa using hlt
      have ht : (doF (afterF A0 (l.take j)) c).2.2 = afterF A0 (l.take (j + 1)) := by
        have : l.take (j + 1) = l.take j ++ [c] := by
          rw [List.getElem?_eq_getElem hlt] at hlc
          rw [List.take_succ_eq_append_getElem hlt]
          simp at hlc
          rw [hlc]
        rw [this, afterF_append]
      have cd19 := do_det w.heap.size w.heap.size g _ _ hk gd (by omega) c cc cd
      unfold GivesS Gives at cd19
      rw [ht] at cd19
      obtain ⟨a, ha⟩ : ∃ a, a = afterF A0 (l.take (j + 1)) := ⟨_, rfl⟩
      have GD := Lib.hid (ha ▸ good_after good0 (l.take (j + 1)) : Good a)
      rw [← ha] at cd19
      have C19 := Lib.hid cd19
      have HA := Lib.hid ha
      have HBR := Lib.hid hb
      obtain ⟨own, hown⟩ : ∃ own, own = runF a := ⟨_, rfl⟩
      have C18 := Lib.hid (show ∀ (g : G) (w' : World), KRep w.heap.size w.heap.size g a w' → Calls Try.prog 18 #[ptr w.heap.size] w' fun e w'' => e = .returned (.int .i64 own) ∧ Below w'.heap.size w' w'' from fun g w' h => by rw [hown]; exact run_det _ _ g a w' h GD.out)
      have HOWN := Lib.hid hown
      clear hb hk hg c0 c1 c2 c3 c4 hlc gd hcl ht cd19 ha hown HB HK CN
      go_wp2_with (first | (go_at_call 19; (with_reducible refine C19.out.mono ?_); rintro e w3 ⟨rfl, hb3, g3, h3⟩; have HB3 := Lib.hid (HBR.out.trans hb3.low); have H3 := Lib.hid h3; clear hb3 h3) | (go_at_call 18; (with_reducible refine (C18.out _ _ H3.out).mono ?_); rintro e w4 ⟨rfl, hb4⟩; have HB4 := Lib.hid (HB3.out.trans (hb4.mono HB3.out.size)); have H4 := Lib.hid (H3.out.below hb4); clear hb4) | (go_at_call 24; (with_reducible refine (tasks_any _ _ _ _ _ H4.out GD.out).mono ?_); rintro e w5 ⟨v5, L, rfl, hb5, hp5, hpw5, hr5, hok5⟩; have HB5 := Lib.hid (HB4.out.trans (hb5.mono HB4.out.size)); have H5 := Lib.hid (H4.out.below hb5); have HP := Lib.hid hp5; have HR := Lib.hid hr5; have HOK := Lib.hid (fun x hx => And.intro (hok5 x hx).mem (hok5 x hx).tk); (obtain ⟨ta, tc, rfl⟩ := own_form hr5); clear hb5 hp5 hpw5 hr5 hok5))
      have hlL : L.length ≤ 20 := by
        have h1 := HP.out.length_eq
        have h2 := nodup_bound 20 a.tids GD.out.tnd (fun x hx => GD.out.trng x hx)
        simp at h1
        omega
      obtain ⟨hrun, hmax⟩ := run_pri GD.out HP.out HOWN.out
      have HRUN := Lib.hid hrun
      have HMAX := Lib.hid hmax
      clear hrun hmax
      go_loop [6, 8] (fun p i => ∃ n : Nat, n ≤ L.length ∧ i = .int .i64 n ∧ p = .int .i64 (priOf a own ((L.take n).map (·.1)))) (fun _ i => L.length - (intOf i).toNat)
      case atStart => exact ⟨0, Nat.zero_le _, rfl, rfl⟩
      case round =>
        obtain ⟨n, hnl, rfl, rfl⟩ := hrel
        obtain ⟨pr, hpr⟩ : ∃ pr, pr = priOf a own ((L.take n).map (·.1)) := ⟨_, rfl⟩
        rw [← hpr]
        have HPR := Lib.hid hpr
        clear hpr
        by_cases hln : n < L.length
        · have hd2 : decide ((n : Int) < (L.length : Int)) = true := by simpa using hln
          obtain ⟨x, hx⟩ : ∃ x, L[n]? = some x := ⟨_, List.getElem?_eq_getElem hln⟩
          obtain ⟨gt, ct, hvt, hct⟩ := te_cells HR.out hx
          simp only [Value.slice.injEq] at hvt
          obtain ⟨rfl, -, rfl⟩ := hvt
          obtain ⟨hm, htk⟩ := HOK.out x (List.mem_of_getElem? hx)
          have q0 : w5.cell? ⟨gt, n * 7, none⟩ = some (.int .i64 x.1) := hct 0 (by omega)
          have q1 : w5.cell? ⟨gt, n * 7 + 1, none⟩ = some (.int .i64 x.2.1.pri) := hct 1 (by omega)
          have q2 : w5.cell? ⟨gt, n * 7 + 2, none⟩ = some (.bool x.2.1.held) := hct 2 (by omega)
          have q3 : w5.cell? ⟨gt, n * 7 + 3, none⟩ = some (.bool x.2.1.waiting) := hct 3 (by omega)
          have HT := Lib.hid (show (L.take (n + 1)).map (·.1) = (L.take n).map (·.1) ++ [x.1] by
            rw [List.getElem?_eq_getElem hln] at hx
            rw [List.take_succ_eq_append_getElem hln]
            simp at hx
            simp [hx])
          by_cases he : x.1 = own
          · have hb : (x.1 == own) = true := by simp [he]
            have hnr : (a.tk own).held = false ∧ (a.tk own).waiting = false := by
              rcases HRUN.out with ⟨h0, _⟩ | ⟨_, _, _, h1, h2⟩
              · have := GD.out.trng x.1 hm; omega
              · exact ⟨h1, h2⟩
            rw [htk, he, hnr.1] at q2
            rw [htk, he, hnr.2] at q3
            have HE := Lib.hid he
            have HTK := Lib.hid htk
            clear he htk hx hct hm hnr
            go_wp2_with fail
            go_round
            case rel =>
              refine ⟨n + 1, by omega, by go_num, ?_⟩
              rw [HT.out, priOf_snoc, if_pos HE.out, HTK.out, HE.out]
            case measure => simp [intOf]; omega
          · have hb : (x.1 == own) = false := by simp [he]
            have HE := Lib.hid he
            clear he htk hx hct hm
            go_wp2_with fail
            go_round
            case rel =>
              refine ⟨n + 1, by omega, by go_num, ?_⟩
              rw [HT.out, priOf_snoc, if_neg HE.out, HPR.out]
            case measure => simp [intOf]; omega
        · have hnL : n = L.length := by omega
          subst hnL
          have hd2 : decide ((L.length : Int) < (L.length : Int)) = false := by simp
          have hpr := HPR.out
          rw [List.take_length] at hpr
          have hrun := HRUN.out
          have hmax := HMAX.out
          rw [← hpr] at hrun hmax
          have hgo : (own != 0) = false ∨ ((own != 0) = true ∧ (pr == 0) = false) := by
            rcases hrun with ⟨h0, _⟩ | ⟨h0, _, h1, _⟩
            · left; simp [h0]
            · right; exact ⟨by simp [h0], by simp [h1]⟩
          have HMAX2 := Lib.hid hmax
          clear hpr hrun hmax
          rcases hgo with h1 | ⟨h1, h2⟩
          all_goals
            go_wp2_with fail
            go_loop [9] (fun i => ∃ n : Nat, n ≤ L.length ∧ i = .int .i64 n) (fun i => L.length - (intOf i).toNat)
            case atStart => exact ⟨0, Nat.zero_le _, rfl⟩
            case round =>
              obtain ⟨n, hnl, rfl⟩ := hrel
              by_cases hln : n < L.length
              · have hd3 : decide ((n : Int) < (L.length : Int)) = true := by simpa using hln
                obtain ⟨x, hx⟩ : ∃ x, L[n]? = some x := ⟨_, List.getElem?_eq_getElem hln⟩
                obtain ⟨gt, ct, hvt, hct⟩ := te_cells HR.out hx
                simp only [Value.slice.injEq] at hvt
                obtain ⟨rfl, -, rfl⟩ := hvt
                obtain ⟨hm, htk⟩ := HOK.out x (List.mem_of_getElem? hx)
                have q1 : w5.cell? ⟨gt, n * 7 + 1, none⟩ = some (.int .i64 x.2.1.pri) := hct 1 (by omega)
                have q2 : w5.cell? ⟨gt, n * 7 + 2, none⟩ = some (.bool x.2.1.held) := hct 2 (by omega)
                have q3 : w5.cell? ⟨gt, n * 7 + 3, none⟩ = some (.bool x.2.1.waiting) := hct 3 (by omega)
                have hmx := HMAX2.out x.1 hm
                rw [← htk] at hmx
                clear htk hx hct hm
                cases hh : x.2.1.held with
                | true =>
                  rw [hh] at q2
                  clear hh hmx
                  go_wp2_with fail
                  go_round
                  case rel => exact ⟨n + 1, by omega, by go_num⟩
                  case measure => simp [intOf]; omega
                | false =>
                  rw [hh] at q2
                  cases hw : x.2.1.waiting with
                  | true =>
                    rw [hw] at q3
                    clear hh hmx hw
                    go_wp2_with fail
                    go_round
                    case rel => exact ⟨n + 1, by omega, by go_num⟩
                    case measure => simp [intOf]; omega
                  | false =>
                    rw [hw] at q3
                    have hlt3 : decide (pr < x.2.1.pri) = false := decide_eq_false (by have := hmx hh hw; omega)
                    clear hh hmx hw
                    go_wp2_with fail
                    go_round
                    case rel => exact ⟨n + 1, by omega, by go_num⟩
                    case measure => simp [intOf]; omega
              · have hnL : n = L.length := by omega
                subst hnL
                have hd3 : decide ((L.length : Int) < (L.length : Int)) = false := by simp
                go_wp2_with fail
                go_roundw
                case rel => exact ⟨j + 1, g3, by omega, by go_num, HB5.out, by rw [← HA.out]; exact H5.out⟩
                case measure => simp [intOf]; omega
    · have hjn : j = l.length := by omega
      subst hjn
      have hdd : decide ((l.length : Int) < (l.length : Int)) = false := by simp
      have HB1 := Lib.hid hb
      clear hb hk gd hcl
      go_wp2_with (go_at_call 16; (with_reducible refine (awake_any _).mono ?_); rintro e w4 ⟨rfl, hb4⟩; have BW := Lib.hid (HB1.out.trans (hb4.mono HB1.out.size)); clear hb4)
      go_ret
      exact ⟨rfl, BW.out⟩
set_option maxHeartbeats 1000000 in
set_option maxRecDepth 100000 in
theorem runs_long (w : World) (va : Option Addr) (n vc : Nat) (hn : 200 < n) :
    Calls Try.prog 7 #[.slice va n vc] w fun e w' => e = .returned (.bool true) ∧ Below w.heap.size w w' := by
  have hl : decide ((200 : Int) < (n : Int)) = true := decide_eq_true (by omega)
  go_enter Try.func7, Try.ntmps7
  go_wp2_with fail
  go_ret
  exact ⟨rfl, Below.refl _ _⟩
theorem runs_any (w : World) (v : Value) (l : List C3) (h : callsAt w v l) :
    Calls Try.prog 7 #[v] w fun e w' => e = .returned (.bool true) ∧ Below w.heap.size w w' := by
  have h' := h
  obtain ⟨va, vc, rfl, _⟩ := h'
  by_cases hn : 200 < l.length
  · exact runs_long w va l.length vc hn
  · exact runs_walk w _ l h (by omega)
end Go.Proofs.Ytkmgbnklfnjfjaa.Ker
