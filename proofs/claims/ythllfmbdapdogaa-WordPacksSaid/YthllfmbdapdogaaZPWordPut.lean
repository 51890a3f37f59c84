/- Plain laws: GetByte and PutByte of the program and of the reference. -/
import Derived.Test.YthllfmbdapdogaaZPWordSplit
import Derived.Test.YthllfmbdapdogaaZPWordRef
namespace Go.Proofs.Ythllfmbdapdogaa.PWord
open Go.RowKit Go.Proofs.YthllfmbdapdogaaW.PrintWords Go.Proofs.YthllfmbdapdogaaW.PrintLast Go.Proofs.YthllfmbdapdogaaW.PrintMore
set_option linter.unusedVariables false
set_option linter.unusedSimpArgs false

theorem eq_loop (l : List Int) (hl : l.length ≤ 1000000000) : ∀ (d k j : Nat), j + d = l.length → d < k → bluebellref00_EqInts.l0 k l l (j : Int) = some true := by
  intro d
  induction d with
  | zero =>
    intro k j hj hk
    obtain ⟨k, rfl⟩ : ∃ m, k = m + 1 := ⟨k - 1, by omega⟩
    simp only [bluebellref00_EqInts.l0]
    rw [if_neg (by omega)]
  | succ d ih =>
    intro k j hj hk
    obtain ⟨k, rfl⟩ : ∃ m, k = m + 1 := ⟨k - 1, by omega⟩
    simp only [bluebellref00_EqInts.l0]
    rw [if_pos (by omega), if_pos (by omega), if_pos (by omega), if_true]
    have e : wrap64 ((j : Int) + 1) = ((j + 1 : Nat) : Int) := by unfold wrap64; omega
    rw [e]
    clear e
    exact ih k (j + 1) (by omega) (by omega)
theorem eq_self (l : List Int) (hl : l.length ≤ 1000000000) {k : Nat} (hk : l.length < k) : bluebellref00_EqInts.f k l l = some true := by
  unfold bluebellref00_EqInts.f
  rw [if_pos rfl]
  exact eq_loop l hl l.length k 0 (by omega) hk
theorem valid_sz {b p : Int} (h : Sz b p) (big : Bool) : word_Valid.f b big = some true ∧ bluebellref01_Valid.f b big = some true := by
  unfold word_Valid.f bluebellref01_Valid.f; rw [sized_sz h, bits_sz h]; exact ⟨rfl, rfl⟩
theorem valid_bad {b : Int} (h : word_sized.f b = some false ∧ bluebellref01_Bits.f b = some false) (big : Bool) : word_Valid.f b big = some false ∧ bluebellref01_Valid.f b big = some false := by
  unfold word_Valid.f bluebellref01_Valid.f; rw [h.1, h.2]; exact ⟨rfl, rfl⟩
theorem tdiv_nat {n : Nat} (hn : 2 ≤ n) {i : Int} (h0 : 0 ≤ i) (h1 : i < 9223372036854775808) : wrap64 (Int.tdiv i n) = ((i.toNat / n : Nat) : Int) ∧ Int.tmod i n = ((i.toNat % n : Nat) : Int) := by
  obtain ⟨I, rfl⟩ := Int.eq_ofNat_of_zero_le h0
  have e1 : Int.tdiv (I : Int) n = ((I / n : Nat) : Int) := by rw [Int.tdiv_eq_ediv_of_nonneg h0, Int.natCast_ediv]
  have e2 : Int.tmod (I : Int) n = ((I % n : Nat) : Int) := by rw [Int.tmod_eq_emod_of_nonneg h0, Int.natCast_emod]
  have := Nat.div_le_self I n
  rw [e1, e2, Int.toNat_natCast]
  refine ⟨?_, rfl⟩
  generalize I / n = Q at *
  clear e1 e2
  unfold wrap64; omega
/-- The byte i of words. -/
def getv (n : Nat) (big : Bool) (L : List Int) (I : Nat) : Int := rd L ((I / n : Nat) : Int) / 2 ^ (8 * pos n big (I % n)) % 256
theorem get_ref {b p : Int} {n : Nat} (h : Sn b p n) (big : Bool) (L : List Int) (i : Int) (hi : i < 9223372036854775808) {k : Nat} (hk : 50 ≤ k) : bluebellref01_GetByte.f k L i b big = some (if i < 0 then (0, 1) else if L.length ≤ i.toNat / n then (0, 1) else (getv n big L i.toNat, 0)) := by
  obtain ⟨h1, h2, h3, h4⟩ := h.n
  unfold bluebellref01_GetByte.f bluebellref01_size.f
  rw [(valid_sz h.sz big).2]
  simp only [Option.bind_some, if_true, h4]
  by_cases i0 : i < 0
  · rw [if_pos i0, if_pos i0]
  have q0 : (0 : Int) ≤ ((i.toNat / n : Nat) : Int) := Int.natCast_nonneg _
  obtain ⟨d1, d2⟩ := tdiv_nat h1 (show 0 ≤ i by omega) hi
  rw [if_neg i0, if_neg i0, if_neg (by omega), d1, d2]
  by_cases c : L.length ≤ i.toNat / n
  · rw [if_pos (by omega), if_pos c]
  have hm := Nat.mod_lt i.toNat (show 0 < n by omega)
  rw [if_neg (by omega), if_neg c, if_pos (by omega), if_pos (by omega), split_val h big _ hk]
  simp only [Option.bind_some]
  rw [if_pos (by omega), if_pos (by rw [spl_length]; omega), spl_get big _ hm]
  rfl
theorem rd_nat (L : List Int) (j : Nat) : rd L (j : Int) = L.getD j 0 := by unfold rd; rw [Int.toNat_natCast]
theorem rd_getElem {L : List Int} {j : Nat} (h : j < L.length) : rd L (j : Int) = L[j] := by rw [rd_nat, List.getD_eq_getElem?_getD, List.getElem?_eq_getElem h]; rfl
end Go.Proofs.Ythllfmbdapdogaa.PWord
