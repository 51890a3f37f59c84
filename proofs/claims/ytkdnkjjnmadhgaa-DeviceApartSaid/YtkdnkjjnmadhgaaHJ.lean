import Derived.Test.YtkdnkjjnmadhgaaDO
set_option linter.unusedVariables false
set_option linter.unusedSimpArgs false
/-! Whether numbers ascend (slices.IsSorted); whether one is out of range (slices.ContainsFunc). -/
namespace Go.Proofs.Ytkdnkjjnmadhgaa.Dev
open Go.RowKit Go.Maps Go.Lib

set_option maxRecDepth 100000 in
theorem nan_int (w : World) (a : Int) : Calls Try.prog 62 #[.int .i64 a] w fun e w' => e = .returned (.bool false) ∧ w' = w := by
  have hb : (a != a) = false := by simp
  go_enter Try.func62, Try.ntmps62
  go_wp2
  go_ret
  exact ⟨rfl, rfl⟩
set_option maxRecDepth 100000 in
theorem less_any (w : World) (a b : Int) : Calls Try.prog 68 #[.int .i64 a, .int .i64 b] w fun e w' => e = .returned (.bool (decide (a < b))) ∧ w' = w := by
  have C1 := Lib.hid (fun w' (a : Int) => nan_int w' a)
  obtain ⟨r, hr⟩ : ∃ r, r = decide (a < b) := ⟨_, rfl⟩
  have hr' : decide (a < b) = r := hr.symm
  rw [← hr]
  clear hr
  go_enter Try.func68, Try.ntmps68
  go_wp2_with (go_at_call 62; (refine (C1.out _ _).mono ?_); rintro e w' ⟨rfl, hw⟩; (obtain rfl : w = w' := hw.symm))
  all_goals (go_ret; exact ⟨rfl, rfl⟩)
/-- The answer is whether P. -/
def BoolIs (P : Prop) (e : Ending) : Prop := ∃ r : Bool, e = .returned (.bool r) ∧ (r = true ↔ P)
/-- Numbers that ascend. -/
def Asc (xs : List Int) : Prop := ∀ (i : Nat) x y, xs[i]? = some x → xs[i + 1]? = some y → x ≤ y
set_option maxHeartbeats 1000000 in
set_option maxRecDepth 100000 in
theorem asc_any (w : World) (B : Nat) (v : Sl) (xs : List Int) (h : Held B 3 w v (ints xs)) (hn : xs.length ≤ 100000) : Calls Try.prog 58 #[slv v] w fun e w' => BoolIs (Asc xs) e ∧ ∃ q, w' = w.drewN q := by
  obtain ⟨va, vn, vc⟩ := v
  have e1 : xs.length = vn := by simpa [ints] using h.1
  subst e1
  have hc : ∀ j, j < xs.length → ∃ g off y, va = some ⟨g, off, none⟩ ∧ xs[j]? = some y ∧ w.cell? ⟨g, off + j, none⟩ = some (.int .i64 y) := fun j hj => by
    obtain ⟨g, off, e, _, hcc⟩ := h.2.2 (show 0 < xs.length by omega)
    exact ⟨g, off, xs[j], e, List.getElem?_eq_getElem hj, hcc j _ (by simp [ints, hj])⟩
  have HC := Lib.hid hc
  have HN := Lib.hid hn
  clear h hc
  show Calls Try.prog 58 #[.slice va xs.length vc] w _
  have k0 : IntKind.i64.wrap ((xs.length : Int) - 1) = (xs.length : Int) - 1 := by rw [IntKind.wrap_i64]; omega
  clear hn
  go_enter Try.func58, Try.ntmps58
  go_wp2_with fail
  clear k0
  go_loopw [3] (fun i wr => ∃ j : Int, -1 ≤ j ∧ j < (xs.length : Int) ∧ i = .int .i64 j ∧ (∀ (k : Nat) x y, j ≤ (k : Int) → xs[k]? = some x → xs[k + 1]? = some y → x ≤ y) ∧ ∃ q, wr = w.drewN q) (fun i _ => (intOf i).toNat)
  case atStart => exact ⟨_, by omega, by omega, rfl, fun k x y hk hx hy => by have := (List.getElem?_eq_some_iff.1 hy).1; omega, 0, rfl⟩
  case round =>
    obtain ⟨j, hj0, hj, rfl, hall, q, rfl⟩ := hrel
    by_cases hp : 0 < j
    · as_aux_lemma =>
        obtain ⟨k, rfl⟩ : ∃ k : Nat, j = k + 1 := ⟨(j - 1).toNat, by omega⟩
        have hd : decide (0 < (k : Int) + 1) = true := by simp
        obtain ⟨g, off, y, rfl, hy, hcy⟩ := HC.out (k + 1) (by omega)
        obtain ⟨g', off', x, hg', hx, hcx⟩ := HC.out k (by omega)
        injection hg' with hg'
        injection hg' with hg1 hg2
        subst hg1 hg2
        have q1 : w.cell? ⟨g, off + (k + 1), none⟩ = some (.int .i64 y) := hcy
        have q2 : w.cell? ⟨g, off + k, none⟩ = some (.int .i64 x) := hcx
        have t1 : ((k : Int) + 1).toNat = k + 1 := by omega
        have t2 : ((k : Int) + 1 - 1).toNat = k := by omega
        have b1 : (k : Int) + 1 < (xs.length : Int) := by omega
        have b2 : (k : Int) < (xs.length : Int) := by omega
        have b3 : (0 : Int) ≤ (k : Int) + 1 := by omega
        have k2 : IntKind.i64.wrap (k : Int) = (k : Int) := by have := HN.out; rw [IntKind.wrap_i64]; omega
        have k1 : IntKind.i64.wrap ((k : Int) + 1 - 1) = (k : Int) := by have := HN.out; rw [IntKind.wrap_i64]; omega
        have C68 := Lib.hid (fun m => less_any (w.drewN m) y x)
        have HALL := Lib.hid hall
        have HX := Lib.hid hx
        have HY := Lib.hid hy
        clear hall hx hy hcx hcy
        go_upto_region 4 with (fail)
        by_cases hlt : y < x
        · as_aux_lemma =>
            rw [decide_eq_true hlt] at C68
            have HLT := Lib.hid hlt
            clear hlt
            go_quiet (((refine (C68.out _).mono ?_); (rintro e w' ⟨he, hw⟩; exact ⟨he, _, hw⟩)))
            go_wp2_with fail
            go_ret
            refine ⟨⟨false, rfl, fun h => (by cases h), fun h => ?_⟩, _, rfl⟩
            have := h k x y HX.out HY.out
            have := HLT.out
            omega
        · as_aux_lemma =>
            rw [decide_eq_false hlt] at C68
            have HLT := Lib.hid hlt
            clear hlt
            go_quiet (((refine (C68.out _).mono ?_); (rintro e w' ⟨he, hw⟩; exact ⟨he, _, hw⟩)))
            go_wp2_with fail
            case roundEnd =>
              refine ⟨⟨(k : Int), by omega, by omega, rfl, fun i a c hi ha hc => ?_, _, rfl⟩, ?_⟩
              · by_cases e : i = k
                · subst e
                  have e1 := HX.out.symm.trans ha
                  have e2 := HY.out.symm.trans hc
                  injection e1 with e1
                  injection e2 with e2
                  have := HLT.out
                  omega
                · exact HALL.out i a c (by omega) ha hc
              · show (k : Int).toNat < ((k : Int) + 1).toNat
                omega
    · as_aux_lemma =>
        have hd : decide (0 < j) = false := by simpa using hp
        have HALL := Lib.hid hall
        have HP := Lib.hid hp
        clear hall hp
        go_wp2_with fail
        go_ret
        refine ⟨⟨true, rfl, fun _ i x y hx hy => ?_, fun _ => rfl⟩, q, rfl⟩
        by_cases hj : j ≤ (i : Int)
        · exact HALL.out i x y hj hx hy
        · have := HP.out; omega
/-- A number out of range, or none. -/
def Outs (xs : List Int) (n : Int) : Prop := ∃ x ∈ xs, x < 0 ∨ n ≤ x
set_option maxRecDepth 100000 in
theorem out_any (w : World) (b : Nat) (x n : Int) (hc : w.cell? ⟨b, 1, none⟩ = some (.int .i64 n)) : Calls Try.prog 55 #[.int .i64 x, ptr b] w fun e w' => e = .returned (.bool (decide (x < 0 ∨ n ≤ x))) ∧ w' = w := by
  by_cases h1 : x < 0
  · have d1 : decide (x < 0) = true := by simpa using h1
    have d2 : decide (x < 0 ∨ n ≤ x) = true := by simp [h1]
    rw [d2]
    clear h1 d2
    go_enter Try.func55, Try.ntmps55
    go_wp2
    go_ret
    exact ⟨rfl, rfl⟩
  · have d1 : decide (x < 0) = false := by simpa using h1
    by_cases h2 : n ≤ x
    · have d3 : decide (n ≤ x) = true := by simpa using h2
      have d2 : decide (x < 0 ∨ n ≤ x) = true := by simp [h2]
      rw [d2]
      clear h1 h2 d2
      go_enter Try.func55, Try.ntmps55
      go_wp2
      go_ret
      exact ⟨rfl, rfl⟩
    · have d3 : decide (n ≤ x) = false := by simpa using h2
      have d2 : decide (x < 0 ∨ n ≤ x) = false := by simp [h1, h2]
      rw [d2]
      clear h1 h2 d2
      go_enter Try.func55, Try.ntmps55
      go_wp2
      go_ret
      exact ⟨rfl, rfl⟩
set_option maxHeartbeats 1000000 in
set_option maxRecDepth 100000 in
theorem find_out (w : World) (B b : Nat) (v : Sl) (xs : List Int) (n : Int) (h : Held B 3 w v (ints xs)) (hn : xs.length ≤ 100000) (hcb : w.cell? ⟨b, 1, none⟩ = some (.int .i64 n)) :
    Calls Try.prog 67 #[slv v, .func (.func 55) #[] #[ptr b]] w fun e w' => ∃ r : Int, e = .returned (.int .i64 r) ∧ (0 ≤ r ↔ Outs xs n) ∧ w' = w := by
  obtain ⟨va, vn, vc⟩ := v
  have e1 : xs.length = vn := by simpa [ints] using h.1
  subst e1
  have hc : ∀ j, j < xs.length → ∃ g off y, va = some ⟨g, off, none⟩ ∧ xs[j]? = some y ∧ w.cell? ⟨g, off + j, none⟩ = some (.int .i64 y) := fun j hj => by
    obtain ⟨g, off, e, _, hcc⟩ := h.2.2 (show 0 < xs.length by omega)
    exact ⟨g, off, xs[j], e, List.getElem?_eq_getElem hj, hcc j _ (by simp [ints, hj])⟩
  have HC := Lib.hid hc
  have HN := Lib.hid hn
  have C55 := Lib.hid (fun x => out_any w b x n hcb)
  clear h hc hn hcb
  show Calls Try.prog 67 #[.slice va xs.length vc, .func (.func 55) #[] #[ptr b]] w _
  go_enter Try.func67, Try.ntmps67
  go_wp2_with fail
  go_loopw [8] (fun i wr => ∃ j : Nat, j ≤ xs.length ∧ i = .int .i64 j ∧ (∀ k x, k < j → xs[k]? = some x → ¬ (x < 0 ∨ n ≤ x)) ∧ wr = w) (fun i _ => xs.length - (intOf i).toNat)
  case atStart => exact ⟨0, Nat.zero_le _, rfl, fun k x hk => absurd hk (by omega), rfl⟩
  case round =>
    obtain ⟨j, hj, rfl, hall, rfl⟩ := hrel
    by_cases hlt : j < xs.length
    · as_aux_lemma =>
        have hd : decide ((j : Int) < (xs.length : Int)) = true := by simpa using hlt
        obtain ⟨g, off, y, rfl, hy, hcell⟩ := HC.out j hlt
        have HALL := Lib.hid hall
        have HY := Lib.hid hy
        have C := Lib.hid (C55.out y)
        clear hall hy
        by_cases hb : y < 0 ∨ n ≤ y
        · as_aux_lemma =>
            rw [decide_eq_true hb] at C
            have HB := Lib.hid hb
            clear hb
            go_wp2_with (go_at_call 55; (refine (C.out).mono ?_); rintro e w' ⟨rfl, hw⟩; (obtain rfl : wr = w' := hw.symm))
            go_ret
            exact ⟨_, rfl, ⟨fun _ => ⟨y, List.mem_of_getElem? HY.out, HB.out⟩, fun _ => by omega⟩, rfl⟩
        · as_aux_lemma =>
            rw [decide_eq_false hb] at C
            have HB := Lib.hid hb
            clear hb
            go_wp2_with (go_at_call 55; (refine (C.out).mono ?_); rintro e w' ⟨rfl, hw⟩; (obtain rfl : wr = w' := hw.symm))
            case roundEnd =>
              have e : wrap64 ((j : Int) + 1) = ((j + 1 : Nat) : Int) := by
                have := HN.out
                unfold wrap64; omega
              refine ⟨⟨j + 1, hlt, by first | rw [e] | rfl, fun k x hk hx => ?_, by first | rfl | trivial⟩, ?_⟩
              · by_cases hkj : k = j
                · subst hkj
                  have e1 := HY.out.symm.trans hx
                  injection e1 with e1
                  subst e1
                  exact HB.out
                · exact HALL.out k x (by omega) hx
              · first | rw [e] | skip
                show xs.length - (j + 1) < xs.length - j
                omega
    · as_aux_lemma =>
        have hjn : j = xs.length := by omega
        subst hjn
        have hd : decide ((xs.length : Int) < (xs.length : Int)) = false := by simp
        have HALL := Lib.hid hall
        clear hall hlt
        go_wp2_with fail
        go_ret
        refine ⟨_, rfl, ⟨fun h => absurd h (by decide), fun ⟨x, hx, ho⟩ => ?_⟩, rfl⟩
        obtain ⟨k, hk, rfl⟩ := List.mem_iff_getElem.1 hx
        exact absurd ho (HALL.out k _ hk (List.getElem?_eq_getElem hk))
set_option maxRecDepth 100000 in
theorem has_out (w : World) (B b : Nat) (v : Sl) (xs : List Int) (n : Int) (h : Held B 3 w v (ints xs)) (hn : xs.length ≤ 100000) (hcb : w.cell? ⟨b, 1, none⟩ = some (.int .i64 n)) :
    Calls Try.prog 54 #[slv v, .func (.func 55) #[] #[ptr b]] w fun e w' => BoolIs (Outs xs n) e ∧ w' = w := by
  have C := Lib.hid (find_out w B b v xs n h hn hcb)
  clear h hn hcb
  go_enter Try.func54, Try.ntmps54
  go_wp2_with (go_at_call 67; (refine (C.out).mono ?_); rintro e w' ⟨r, rfl, hr, hw⟩; (obtain rfl : w = w' := hw.symm); have HR := Lib.hid hr; clear hr)
  go_ret
  exact ⟨⟨_, rfl, by rw [← HR.out]; simp⟩, rfl⟩
end Go.Proofs.Ytkdnkjjnmadhgaa.Dev
