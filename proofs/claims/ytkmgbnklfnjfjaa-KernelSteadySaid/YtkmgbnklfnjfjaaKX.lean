import Derived.Test.YtkmgbnklfnjfjaaKW
/-! Contracts: HasInt, EqInts. -/
namespace Go.Proofs.Ytkmgbnklfnjfjaa.Ker
open Go.RowKit Go.Maps
open Go.ChangeMaps (setBlock)

/-- Slice v holds the numbers xs. -/
def intsAt (w : World) (v : Value) (xs : List Int) : Prop := ∃ B, w.ownsRow B 3 1 v xs.length (xs.map fun p => .int .i64 p)
theorem intsAt.form {w : World} {v : Value} {xs : List Int} (h : intsAt w v xs) : ∃ va vc, v = .slice va xs.length vc ∧ ∀ j, j < xs.length → ∃ g x, va = some ⟨g, 0, none⟩ ∧ xs[j]? = some x ∧ w.cell? ⟨g, j, none⟩ = some (.int .i64 x) := by
  obtain ⟨B, h⟩ := h
  obtain ⟨va, vc, rfl⟩ := own_form h
  refine ⟨va, vc, rfl, fun j hj => ?_⟩
  obtain ⟨g, cap, he, _, _, _, cur, hg, _, _, hcell⟩ := own_cell h (by omega)
  have h1 := hcell j hj
  simp only [List.getElem?_map, List.getElem?_eq_getElem hj, Option.map_some] at h1
  simp at he
  exact ⟨g, xs[j], he.1, List.getElem?_eq_getElem hj, h1⟩

/-- Where x stands first. -/
def IsAt (xs : List Int) (x r : Int) : Prop := (r = -1 ∧ x ∉ xs) ∨ ∃ k : Nat, r = k ∧ xs[k]? = some x
set_option maxHeartbeats 400000 in
set_option maxRecDepth 100000 in
theorem has_int (w : World) (v : Value) (xs : List Int) (x : Int) (h : intsAt w v xs) (hn : xs.length ≤ 100000) :
    Calls Try.prog 22 #[v, .int .i64 x] w fun e w' => ∃ r, e = .returned (.int .i64 r) ∧ IsAt xs x r ∧ w' = w := by
  obtain ⟨va, vc, rfl, hc⟩ := h.form
  have HC := Lib.hid hc
  clear h hc
  go_enter Try.func22, Try.ntmps22
  go_wp2_with fail
  go_loopw [5] (fun i wr => ∃ j : Nat, j ≤ xs.length ∧ i = .int .i64 j ∧ (∀ k, k < j → xs[k]? ≠ some x) ∧ wr = w)
    (fun i _ => xs.length - (intOf i).toNat)
  case atStart => exact ⟨0, Nat.zero_le _, rfl, fun k hk => absurd hk (by omega), rfl⟩
  case round =>
    obtain ⟨j, hj, rfl, hne, rfl⟩ := hrel
    by_cases hlt : j < xs.length
    · obtain ⟨g, y, rfl, hy, hcell⟩ := HC.out j hlt
      have hd : decide ((j : Int) < (xs.length : Int)) = true := by simpa using hlt
      have HY := Lib.hid hy
      have HNE := Lib.hid hne
      clear hy hne
      cases hb : y == x with
      | true =>
        have HB := Lib.hid hb
        clear hb
        have hb' : (y == x) = true := HB.out
        go_wp2_with fail
        go_ret
        have hyx : y = x := by simpa using HB.out
        exact ⟨_, rfl, .inr ⟨j, rfl, by rw [HY.out, hyx]⟩, rfl⟩
      | false =>
        have HB := Lib.hid hb
        clear hb
        have hb' : (y == x) = false := HB.out
        go_wp2_with fail
        go_roundw
        case rel =>
          refine ⟨j + 1, by omega, by go_num, ?_, trivial⟩
          intro k hk
          by_cases hkj : k = j
          · subst hkj
            rw [HY.out]
            intro e
            have := HB.out
            simp at e
            simp [e] at this
          · exact HNE.out k (by omega)
        case measure => simp [intOf]; omega
    · have hjn : j = xs.length := by omega
      subst hjn
      have HNE := Lib.hid hne
      clear hne
      go_wp2_with fail
      go_ret
      refine ⟨_, rfl, .inl ⟨rfl, ?_⟩, rfl⟩
      intro hm
      obtain ⟨k, hk, hkx⟩ := List.getElem_of_mem hm
      exact HNE.out k hk (by rw [List.getElem?_eq_getElem hk, hkx])

set_option maxHeartbeats 400000 in
set_option maxRecDepth 100000 in
theorem eq_ints (w : World) (v u : Value) (xs ys : List Int) (h : intsAt w v xs) (h2 : intsAt w u ys) (hn : xs.length ≤ 100000) (hn2 : ys.length ≤ 100000) :
    Calls Try.prog 13 #[v, u] w fun e w' => e = .returned (.bool (decide (xs = ys))) ∧ ∃ n, w' = w.drewN n := by
  obtain ⟨va, vc, rfl, hc⟩ := h.form
  obtain ⟨ua, uc, rfl, hc2⟩ := h2.form
  have HC := Lib.hid hc
  have HC2 := Lib.hid hc2
  clear h hc h2 hc2
  go_enter Try.func13, Try.ntmps13
  by_cases hl : xs.length = ys.length
  · have hb : ((xs.length : Int) != (ys.length : Int)) = false := by simp [hl]
    have HL := Lib.hid hl
    clear hl
    go_wp2_with fail
    go_loopw [5] (fun i wr => ∃ j : Nat, j ≤ xs.length ∧ i = .int .i64 j ∧ (∀ k, k < j → xs[k]? = ys[k]?) ∧ ∃ n, wr = w.drewN n)
      (fun i _ => xs.length - (intOf i).toNat)
    case atStart => exact ⟨0, Nat.zero_le _, rfl, fun k hk => absurd hk (by omega), 0, rfl⟩
    case round =>
      obtain ⟨j, hj, rfl, hne, n, rfl⟩ := hrel
      by_cases hlt : j < xs.length
      · obtain ⟨g, y, rfl, hy, hcell⟩ := HC.out j hlt
        obtain ⟨g2, y2, rfl, hy2, hcell2⟩ := HC2.out j (by have := HL.out; omega)
        have hlt2 : j < ys.length := by have := HL.out; omega
        have hd : decide ((j : Int) < (xs.length : Int)) = true := by simpa using hlt
        have hd2 : decide ((j : Int) < (ys.length : Int)) = true := by have := HL.out; simp; omega
        have HY := Lib.hid hy
        have HY2 := Lib.hid hy2
        have HNE := Lib.hid hne
        clear hy hne hy2
        cases hb2 : y != y2 with
        | true =>
          have HB := Lib.hid hb2
          clear hb2
          have hb' : (y != y2) = true := HB.out
          go_wp2_with fail
          go_quiet (fail)
          go_wp2_with fail
          go_ret
          have hyx : y ≠ y2 := by simpa using HB.out
          have hxy : xs ≠ ys := by
            intro e
            subst e
            have := HY.out.symm.trans HY2.out
            exact hyx (by simpa using this)
          exact ⟨by rw [decide_eq_false hxy]; rfl, n + nq, by simp [World.drewN, Nat.add_assoc]⟩
        | false =>
          have HB := Lib.hid hb2
          clear hb2
          have hb' : (y != y2) = false := HB.out
          go_wp2_with fail
          go_quiet (fail)
          go_wp2_with fail
          go_roundw
          case rel =>
            refine ⟨j + 1, by omega, by go_num, ?_, _, rfl⟩
            intro k hk
            by_cases hkj : k = j
            · subst hkj
              have : y = y2 := by simpa using HB.out
              rw [HY.out, HY2.out, this]
            · exact HNE.out k (by omega)
          case measure => simp [intOf]; omega
      · have hjn : j = xs.length := by omega
        subst hjn
        have HNE := Lib.hid hne
        clear hne
        go_wp2_with fail
        go_ret
        have e : xs = ys := by
          apply List.ext_getElem?
          intro k
          by_cases hk : k < xs.length
          · exact HNE.out k hk
          · have := HL.out
            rw [List.getElem?_eq_none (by omega), List.getElem?_eq_none (by omega)]
        exact ⟨by rw [decide_eq_true e]; rfl, _, rfl⟩
  · have hb : ((xs.length : Int) != (ys.length : Int)) = true := by simp; omega
    have HL := Lib.hid hl
    clear hl
    go_wp2_with fail
    go_ret
    have e : xs ≠ ys := fun e => HL.out (by rw [e])
    exact ⟨by rw [decide_eq_false e]; rfl, 0, rfl⟩
end Go.Proofs.Ytkmgbnklfnjfjaa.Ker
