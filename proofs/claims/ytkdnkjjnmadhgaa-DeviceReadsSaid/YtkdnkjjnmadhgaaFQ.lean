import Derived.Test.YtkdnkjjnmadhgaaFP
/-! How many are pending; bytes that are the same. -/
namespace Go.Proofs.Ytkdnkjjnmadhgaa.Dev
open Go.RowKit Go.Maps Go.Lib

set_option maxRecDepth 100000 in
theorem pending_any (w : World) (B b : Nat) (m : BM) (h : BRep B w b m) (hs : 0 ≤ m.sent ∧ m.sent ≤ 100000) (ht : 0 ≤ m.told ∧ m.told ≤ 100000) : Calls Try.prog 20 #[ptr b] w fun e w' => e = .returned (.int .i64 (m.sent - m.told)) ∧ ∃ q, w' = w.drewN q := by
  obtain ⟨c0, c1, c2, c3, c4⟩ := h.all
  have k1 : IntKind.i64.wrap (m.sent - m.told) = m.sent - m.told := by rw [IntKind.wrap_i64]; omega
  clear h hs ht
  go_enter Try.func20, Try.ntmps20
  go_upto_region 3 with (fail)
  go_quiet (fail)
  go_wp2_with fail
  go_ret
  exact ⟨rfl, _, rfl⟩
def bytes (l : List Int) : List Value := l.map (.int .u8 ·)
set_option maxHeartbeats 1000000 in
set_option maxRecDepth 100000 in
/-- Bytes that are the same. -/
theorem eq_bytes (w : World) (B : Nat) (v1 v2 : Sl) (bs : List Int) (h1 : Held B 5 w v1 (bytes bs)) (h2 : Held B 5 w v2 (bytes bs)) (hn : bs.length ≤ 100000) : Calls Try.prog 21 #[slv v1, slv v2] w fun e w' => e = .returned (.bool true) ∧ ∃ q, w' = w.drewN q := by
  obtain ⟨a1, n1, c1⟩ := v1
  obtain ⟨a2, n2, c2⟩ := v2
  have e1 : bs.length = n1 := by simpa [bytes] using h1.1
  have e2 : bs.length = n2 := by simpa [bytes] using h2.1
  subst e1 e2
  have hc : ∀ {v : Sl}, Held B 5 w v (bytes bs) → ∀ j, j < bs.length → ∃ g off y, v.1 = some ⟨g, off, none⟩ ∧ bs[j]? = some y ∧ w.cell? ⟨g, off + j, none⟩ = some (.int .u8 y) := fun {v} h j hj => by
    obtain ⟨g, off, e, _, hcc⟩ := h.2.2 (by rw [← h.1]; simp [bytes]; omega)
    exact ⟨g, off, bs[j], e, List.getElem?_eq_getElem hj, hcc j _ (by simp [bytes, hj])⟩
  have HC1 := Lib.hid (hc h1)
  have HC2 := Lib.hid (hc h2)
  have HN := Lib.hid hn
  clear h1 h2 hc hn
  show Calls Try.prog 21 #[.slice a1 bs.length c1, .slice a2 bs.length c2] w _
  go_enter Try.func21, Try.ntmps21
  have hne : (((bs.length : Int)) != (bs.length : Int)) = false := by simp
  go_wp2_with fail
  go_loopw [5] (fun i wr => ∃ j : Nat, j ≤ bs.length ∧ i = .int .i64 j ∧ ∃ q, wr = w.drewN q) (fun i _ => bs.length - (intOf i).toNat)
  case atStart => exact ⟨0, Nat.zero_le _, rfl, 0, rfl⟩
  case round =>
    obtain ⟨j, hj, rfl, q, rfl⟩ := hrel
    by_cases hlt : j < bs.length
    · as_aux_lemma =>
        obtain ⟨g, off, y, rfl, hy, hcell⟩ := HC1.out j hlt
        obtain ⟨g', off', y', rfl, hy', hcell'⟩ := HC2.out j hlt
        obtain rfl : y = y' := by rw [hy] at hy'; injection hy'
        have hd : decide ((j : Int) < (bs.length : Int)) = true := by simpa using hlt
        have hq1 : (w.drewN q).cell? ⟨g, off + j, none⟩ = some (.int .u8 y) := hcell
        have hq2 : (w.drewN q).cell? ⟨g', off' + j, none⟩ = some (.int .u8 y) := hcell'
        have hyy : (y != y) = false := by simp
        clear hy hy' hq1 hq2
        go_upto_region 6 with (fail)
        go_quiet (fail)
        go_wp2_with fail
        case roundEnd =>
          have e : wrap64 ((j : Int) + 1) = ((j + 1 : Nat) : Int) := by
            have := HN.out
            unfold wrap64; omega
          refine ⟨⟨j + 1, hlt, by rw [e], _, rfl⟩, ?_⟩
          rw [e]
          show bs.length - (j + 1) < bs.length - j
          omega
    · as_aux_lemma =>
        have hjn : j = bs.length := by omega
        subst hjn
        have hd : decide ((bs.length : Int) < (bs.length : Int)) = false := by simp
        go_wp2_with fail
        go_ret
        exact ⟨rfl, q, rfl⟩
end Go.Proofs.Ytkdnkjjnmadhgaa.Dev
