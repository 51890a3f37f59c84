import Derived.Test.YtkdnkjjnmadhgaaFP
import Derived.Test.YtkdnkjjnmadhgaaEB
set_option linter.unusedVariables false
set_option linter.unusedSimpArgs false
/-! How many are pending; bytes that are the same. -/
namespace Go.Proofs.Ytkdnkjjnmadhgaa.Dev
open Go.RowKit Go.Maps Go.Lib

set_option maxRecDepth 100000 in
theorem pending_any (w : World) (B b : Nat) (m : BM) (h : BRep B w b m) (hs : 0 ≤ m.sent ∧ m.sent ≤ 100000) (ht : 0 ≤ m.told ∧ m.told ≤ 100000) : Calls Try.prog 20 #[ptr b] w fun e w' => e = .returned (.int .i64 (m.sent - m.told)) ∧ ∃ q, w' = w.drewN q := by
  obtain ⟨c0, c1, c2, c3, c4⟩ := h.all
  have k1 : IntKind.i64.wrap (m.sent - m.told) = m.sent - m.told := by rw [IntKind.wrap_i64]; omega
  clear h hs ht
  go_enter Try.func20, Try.ntmps20
  go_upto_region 3 with (fail)
  go_quiet (fail)
  go_wp2_with fail
  go_ret
  exact ⟨rfl, _, rfl⟩
def bytes (l : List Int) : List Value := l.map (.int .u8 ·)
set_option maxHeartbeats 1000000 in
set_option maxRecDepth 100000 in
/-- Bytes that are the same. -/
theorem eq_bytes (w : World) (B : Nat) (v1 v2 : Sl) (bs : List Int) (h1 : Held B 5 w v1 (bytes bs)) (h2 : Held B 5 w v2 (bytes bs)) (hn : bs.length ≤ 100000) : Calls Try.prog 21 #[slv v1, slv v2] w fun e w' => e = .returned (.bool true) ∧ ∃ q, w' = w.drewN q := by
  obtain ⟨a1, n1, c1⟩ := v1
  obtain ⟨a2, n2, c2⟩ := v2
  have e1 : bs.length = n1 := by simpa [bytes] using h1.1
  have e2 : bs.length = n2 := by simpa [bytes] using h2.1
  subst e1 e2
  have hc : ∀ {v : Sl}, Held B 5 w v (bytes bs) → ∀ j, j < bs.length → ∃ g off y, v.1 = some ⟨g, off, none⟩ ∧ bs[j]? = some y ∧ w.cell? ⟨g, off + j, none⟩ = some (.int .u8 y) := fun {v} h j hj => by
    obtain ⟨g, off, e, _, hcc⟩ := h.2.2 (by rw [← h.1]; simp [bytes]; omega)
    exact ⟨g, off, bs[j], e, List.getElem?_eq_getElem hj, hcc j _ (by simp [bytes, hj])⟩
  have HC1 := Lib.hid (hc h1)
  have HC2 := Lib.hid (hc h2)
  have HN := Lib.hid hn
  clear h1 h2 hc hn
  show Calls Try.prog 21 #[.slice a1 bs.length c1, .slice a2 bs.length c2] w _
  go_enter Try.func21, Try.ntmps21
  have hne : (((bs.length : Int)) != (bs.length : Int)) = false := by simp
  go_wp2_with fail
  go_loopw [5] (fun i wr => ∃ j : Nat, j ≤ bs.length ∧ i = .int .i64 j ∧ ∃ q, wr = w.drewN q) (fun i _ => bs.length - (intOf i).toNat)
  case atStart => exact ⟨0, Nat.zero_le _, rfl, 0, rfl⟩
  case round =>
    obtain ⟨j, hj, rfl, q, rfl⟩ := hrel
    by_cases hlt : j < bs.length
    · as_aux_lemma =>
        obtain ⟨g, off, y, rfl, hy, hcell⟩ := HC1.out j hlt
        obtain ⟨g', off', y', rfl, hy', hcell'⟩ := HC2.out j hlt
        obtain rfl : y = y' := by rw [hy] at hy'; injection hy'
        have hd : decide ((j : Int) < (bs.length : Int)) = true := by simpa using hlt
        have hq1 : (w.drewN q).cell? ⟨g, off + j, none⟩ = some (.int .u8 y) := hcell
        have hq2 : (w.drewN q).cell? ⟨g', off' + j, none⟩ = some (.int .u8 y) := hcell'
        have hyy : (y != y) = false := by simp
        clear hy hy' hq1 hq2
        go_upto_region 6 with (fail)
        go_quiet (fail)
        go_wp2_with fail
        case roundEnd =>
          have e : wrap64 ((j : Int) + 1) = ((j + 1 : Nat) : Int) := by
            have := HN.out
            unfold wrap64; omega
          refine ⟨⟨j + 1, hlt, by rw [e], _, rfl⟩, ?_⟩
          rw [e]
          show bs.length - (j + 1) < bs.length - j
          omega
    · as_aux_lemma =>
        have hjn : j = bs.length := by omega
        subst hjn
        have hd : decide ((bs.length : Int) < (bs.length : Int)) = false := by simp
        go_wp2_with fail
        go_ret
        exact ⟨rfl, q, rfl⟩
end Go.Proofs.Ytkdnkjjnmadhgaa.Dev
/-! A parameter [][]byte, opened to its cells. -/
namespace Go.Proofs.Ytkdnkjjnmadhgaa.Dev
open Go.RowKit Go.Maps
open Go.ChangeShapes Go.WideShapes Go.Deep Go.Joins

theorem cell_spot {w : World} {a : Addr} {v : Value} (h : w.cell? a = some v) : a.spot = none := by
  unfold World.cell? at h
  split at h
  · split at h
    · cases h
    · rename_i hs
      simpa using hs
  · cases h
section
variable {H : Type} {enc : TypeId × Value → H} {w : World} {base : Nat} {spare : Nat → Bool} {held : Bool}
set_option maxRecDepth 100000 in
/-- A row of bytes. -/
theorem open_row5 {fuel : Nat} {cs : List Value} {x : DataW H × List MemPlace} (h : DataW.trod enc Try.prog w base spare held fuel 39 cs = some x) :
    ∃ (v : Sl) (bs : List Int), cs = [slv v] ∧ Held w.heap.size 5 w v (bytes bs) := by
  have e5 : Try.prog.cellsOf 5 = 1 := by kernel_rfl
  rcases open_slice Try.underlying39 h with ⟨hcs, _⟩ | ⟨a, len, cap, m, n, D, Pl, hcs, _, hl, _, hm, _, hi⟩
  · exact ⟨(none, 0, 0), [], hcs, Held.nil_⟩
  · have hlm : len ≤ m := by rw [hm]; split <;> omega
    have key : ∀ i, i < len → ∃ y : Int, w.cell? (a.add i) = some (.int .u8 y) := by
      intro i hil
      obtain ⟨cs', hc, ht⟩ := hi i (by omega)
      rw [e5] at hc
      obtain ⟨_, hcl, hat⟩ := World.cells?_some hc
      obtain ⟨n0, e0, _⟩ := DataW.trod_int Try.underlying5 ht
      subst e0
      have h0 := hat 0 (by omega)
      rw [Nat.mul_one] at h0
      exact ⟨n0, by simpa [Addr.add] using h0⟩
    refine ⟨(some a, len, cap), (List.range len).map fun i => if h : i < len then (key i h).choose else 0, hcs, ?_⟩
    refine ⟨by simp [bytes], fun u hu => ?_, fun h0 => ?_⟩
    · simp only [bytes, List.map_map, List.mem_map] at hu
      obtain ⟨i, _, rfl⟩ := hu
      rfl
    · have h0 : 0 < len := h0
      obtain ⟨y, hy⟩ := key 0 h0
      have hsp : a.spot = none := by
        have := cell_spot hy
        simpa [Addr.add] using this
      obtain ⟨b, o, sp⟩ := a
      have hsp : sp = none := hsp
      subst hsp
      refine ⟨b, o, rfl, .inl ?_, fun j u hu => ?_⟩
      · have := lt_of_cell hy
        rwa [Addr.add_lit] at this
      · have hj : j < len := by
          have := (List.getElem?_eq_some_iff.1 hu).1
          simpa [bytes] using this
        have e2 : (⟨b, o, none⟩ : Addr).add j = ⟨b, o + j, none⟩ := Addr.add_lit _ _ _
        have hs : w.cell? ⟨b, o + j, none⟩ = some (.int .u8 (key j hj).choose) := (congrArg w.cell? e2).symm.trans (key j hj).choose_spec
        rw [hs, ← hu]
        simp [bytes, hj]
set_option maxRecDepth 100000 in
/-- Rows of bytes. -/
theorem open_rows {fuel : Nat} {cs : List Value} {x : DataW H × List MemPlace} (h : DataW.trod enc Try.prog w base spare held fuel 52 cs = some x) :
    ∃ (A : Option Addr) (c : Nat) (ms : List (Sl × List Int)), cs = [.slice A ms.length c] ∧ (0 < ms.length → ∃ g off, A = some ⟨g, off, none⟩ ∧ g < w.heap.size ∧ ∀ j m, ms[j]? = some m → w.cell? ⟨g, off + j, none⟩ = some (slv m.1)) ∧ ∀ m ∈ ms, Held w.heap.size 5 w m.1 (bytes m.2) := by
  have e39 : Try.prog.cellsOf 39 = 1 := by kernel_rfl
  rcases open_slice Try.underlying52 h with ⟨hcs, _⟩ | ⟨a, len, cap, m, n, D, Pl, hcs, _, hl, _, hm, _, hi⟩
  · exact ⟨none, 0, [], hcs, fun h => absurd h (by simp), fun m hm => by cases hm⟩
  · have hlm : len ≤ m := by rw [hm]; split <;> omega
    have key : ∀ i, i < len → ∃ y : Sl × List Int, w.cell? (a.add i) = some (slv y.1) ∧ Held w.heap.size 5 w y.1 (bytes y.2) := by
      intro i hil
      obtain ⟨cs', hc, ht⟩ := hi i (by omega)
      rw [e39] at hc
      obtain ⟨_, hcl, hat⟩ := World.cells?_some hc
      obtain ⟨v, bs, e0, hh⟩ := open_row5 ht
      subst e0
      have h0 := hat 0 (by omega)
      rw [Nat.mul_one] at h0
      exact ⟨(v, bs), by simpa [Addr.add] using h0, hh⟩
    refine ⟨some a, cap, (List.range len).map fun i => if h : i < len then (key i h).choose else ((none, 0, 0), []), by simpa using hcs, fun h0 => ?_, fun y hy => ?_⟩
    · have h0 : 0 < len := by simpa using h0
      obtain ⟨y, hy, _⟩ := key 0 h0
      have hsp : a.spot = none := by
        have := cell_spot hy
        simpa [Addr.add] using this
      obtain ⟨b, o, sp⟩ := a
      have hsp : sp = none := hsp
      subst hsp
      refine ⟨b, o, rfl, ?_, fun j m hu => ?_⟩
      · have := lt_of_cell hy
        rwa [Addr.add_lit] at this
      · have hj : j < len := by
          have := (List.getElem?_eq_some_iff.1 hu).1
          simpa using this
        have e2 : (⟨b, o, none⟩ : Addr).add j = ⟨b, o + j, none⟩ := Addr.add_lit _ _ _
        have hs : w.cell? ⟨b, o + j, none⟩ = some (slv (key j hj).choose.1) := (congrArg w.cell? e2).symm.trans (key j hj).choose_spec.1
        have hm2 : m = (key j hj).choose := by
          simp [hj] at hu
          exact hu.symm
        rw [hs, hm2]
    · obtain ⟨i, hi2, rfl⟩ := List.mem_map.1 hy
      have hi3 : i < len := by simpa using hi2
      simp only [hi3, dite_true]
      exact (key i hi3).choose_spec.2
end
end Go.Proofs.Ytkdnkjjnmadhgaa.Dev
