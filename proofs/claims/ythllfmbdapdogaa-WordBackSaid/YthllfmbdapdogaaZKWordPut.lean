/- Plain laws: GetByte and PutByte of the program and of the reference. -/
import Derived.Test.YthllfmbdapdogaaZKWordSplit
import Derived.Test.YthllfmbdapdogaaZKWordRef
namespace Go.Proofs.Ythllfmbdapdogaa.PWord
open Go.RowKit Go.Proofs.YthllfmbdapdogaaW.PrintWords Go.Proofs.YthllfmbdapdogaaW.PrintLast Go.Proofs.YthllfmbdapdogaaW.PrintMore
set_option linter.unusedVariables false
set_option linter.unusedSimpArgs false

theorem valid_sz {b p : Int} (h : Sz b p) (big : Bool) : word_Valid.f b big = some true ∧ bluebellref01_Valid.f b big = some true := by
  unfold word_Valid.f bluebellref01_Valid.f; rw [sized_sz h, bits_sz h]; exact ⟨rfl, rfl⟩
theorem valid_bad {b : Int} (h : word_sized.f b = some false ∧ bluebellref01_Bits.f b = some false) (big : Bool) : word_Valid.f b big = some false ∧ bluebellref01_Valid.f b big = some false := by
  unfold word_Valid.f bluebellref01_Valid.f; rw [h.1, h.2]; exact ⟨rfl, rfl⟩
theorem tdiv_nat {n : Nat} (hn : 2 ≤ n) {i : Int} (h0 : 0 ≤ i) (h1 : i < 9223372036854775808) : wrap64 (Int.tdiv i n) = ((i.toNat / n : Nat) : Int) ∧ Int.tmod i n = ((i.toNat % n : Nat) : Int) := by
  obtain ⟨I, rfl⟩ := Int.eq_ofNat_of_zero_le h0
  have e1 : Int.tdiv (I : Int) n = ((I / n : Nat) : Int) := by rw [Int.tdiv_eq_ediv_of_nonneg h0, Int.natCast_ediv]
  have e2 : Int.tmod (I : Int) n = ((I % n : Nat) : Int) := by rw [Int.tmod_eq_emod_of_nonneg h0, Int.natCast_emod]
  have := Nat.div_le_self I n
  rw [e1, e2, Int.toNat_natCast]
  refine ⟨?_, rfl⟩
  generalize I / n = Q at *
  clear e1 e2
  unfold wrap64; omega
/-- The byte i of words. -/
def getv (n : Nat) (big : Bool) (L : List Int) (I : Nat) : Int := rd L ((I / n : Nat) : Int) / 2 ^ (8 * pos n big (I % n)) % 256
theorem get_word {b p : Int} {n : Nat} (h : Sn b p n) (big : Bool) (L : List Int) (i : Int) (hi : i < 9223372036854775808) : word_GetByte.f L i b big = some (if i < 0 then (0, 1) else if L.length ≤ i.toNat / n then (0, 1) else (getv n big L i.toNat, 0)) := by
  obtain ⟨h1, h2, h3, h4⟩ := h.n
  unfold word_GetByte.f
  rw [(valid_sz h.sz big).1]
  simp only [Option.bind_some, if_true, h4]
  by_cases i0 : i < 0
  · rw [if_pos i0, if_pos i0]
  have q0 : (0 : Int) ≤ ((i.toNat / n : Nat) : Int) := Int.natCast_nonneg _
  obtain ⟨d1, d2⟩ := tdiv_nat h1 (show 0 ≤ i by omega) hi
  rw [if_neg i0, if_neg i0, if_neg (by omega), d1, d2]
  by_cases c : L.length ≤ i.toNat / n
  · rw [if_pos (by omega), if_pos c]
  rw [if_neg (by omega), if_neg c, if_pos (by omega), if_pos (by omega), byte_val h]
  simp only [Option.bind_some]
  rw [Nat.mod_mod]
  rfl
theorem put_nm {b p : Int} {n : Nat} (h : Sn b p n) {q : Nat} (hq : q < n) (v w : Int) : put p q v (nm p w) = put p q v w := by
  unfold put
  have e := nm_emod h.sz w
  generalize nm p w = x at *
  refine nm_congr h.sz ?_
  rcases h with ⟨_, rfl, rfl⟩ | ⟨_, rfl, rfl⟩ | ⟨_, rfl, rfl⟩
  · have : q = 0 ∨ q = 1 := by omega
    rcases this with rfl | rfl <;> simp <;> omega
  · have : q = 0 ∨ q = 1 ∨ q = 2 := by omega
    rcases this with rfl | rfl | rfl <;> simp <;> omega
  · have : q = 0 ∨ q = 1 ∨ q = 2 ∨ q = 3 := by omega
    rcases this with rfl | rfl | rfl | rfl <;> simp <;> omega
/-- The words with a byte changed. -/
def putL (p : Int) (n : Nat) (big : Bool) (L : List Int) (I : Nat) (v : Int) : List Int := (L.map (nm p)).set (I / n) (put p (pos n big (I % n)) v (rd L ((I / n : Nat) : Int)))
theorem rd_nat (L : List Int) (j : Nat) : rd L (j : Int) = L.getD j 0 := by unfold rd; rw [Int.toNat_natCast]
theorem rd_getElem {L : List Int} {j : Nat} (h : j < L.length) : rd L (j : Int) = L[j] := by rw [rd_nat, List.getD_eq_getElem?_getD, List.getElem?_eq_getElem h]; rfl
theorem norm_set {p : Int} {L : List Int} {j : Nat} (h : j < L.length) : ((L.take j).map (nm p) ++ List.replicate (L.length - j) 0).set j (nm p (rd L (j : Int))) = (L.take (j + 1)).map (nm p) ++ List.replicate (L.length - (j + 1)) 0 := by
  have hl : ((L.take j).map (nm p)).length = j := by simp; omega
  rw [List.set_append_right _ _ (by omega), hl, Nat.sub_self, show L.length - j = (L.length - (j + 1)) + 1 from by omega, List.replicate_succ, List.set_cons_zero, List.take_succ_eq_append_getElem h, List.map_append, List.append_assoc, rd_getElem h]
  rfl
theorem put_loop {b p : Int} {n : Nat} (h : Sn b p n) (big : Bool) (L : List Int) (I : Nat) (hI : (I : Int) < 9223372036854775808) (v : Int) (hL : L.length ≤ 1000000) (hq : I / n < L.length) : ∀ (d k j : Nat), j + d = L.length → d < k → word_PutByte.l0 k L (I : Int) v (n : Int) ((L.take j).map (nm p) ++ List.replicate (L.length - j) 0) (L.length : Int) (j : Int) b big = some (putL p n big L I v, 0) := by
  obtain ⟨h1, h2, h3, h4⟩ := h.n
  intro d
  induction d with
  | zero =>
    intro k j hj hk
    obtain ⟨k, rfl⟩ : ∃ m, k = m + 1 := ⟨k - 1, by omega⟩
    simp only [word_PutByte.l0]
    have q0 : (0 : Int) ≤ ((I / n : Nat) : Int) := Int.natCast_nonneg _
    obtain ⟨d1, d2⟩ := tdiv_nat h1 (show 0 ≤ (I : Int) by omega) hI
    rw [Int.toNat_natCast] at d1 d2
    have hm := Nat.mod_lt I (show 0 < n by omega)
    have e0 : L.take j = L := List.take_of_length_le (by omega)
    rw [if_neg (by omega), if_neg (by omega), d1, d2, e0, show L.length - j = 0 from by omega, List.replicate_zero, List.append_nil, if_pos (by omega), if_pos (by rw [List.length_map]; omega), with_val h]
    simp only [Option.bind_some, Int.toNat_natCast]
    rw [Nat.mod_mod]
    unfold putL
    have e1 : rd (L.map (nm p)) ((I / n : Nat) : Int) = nm p (rd L ((I / n : Nat) : Int)) := by
      rw [rd_getElem (by rw [List.length_map]; exact hq), rd_getElem hq, List.getElem_map]
    rw [e1, put_nm h (pos_lt big hm)]
  | succ d ih =>
    intro k j hj hk
    obtain ⟨k, rfl⟩ : ∃ m, k = m + 1 := ⟨k - 1, by omega⟩
    simp only [word_PutByte.l0]
    rw [if_pos (by omega), if_pos (by omega), if_pos (by omega), norm_word h.sz]
    simp only [Option.bind_some]
    rw [if_pos (by simp; omega), Int.toNat_natCast, norm_set (by omega), w_next (by omega)]
    exact ih k (j + 1) (by omega) (by omega)
theorem put_word {b p : Int} {n : Nat} (h : Sn b p n) (big : Bool) (L : List Int) (i v : Int) (hi : i < 9223372036854775808) (hL : L.length ≤ 1000000) {k : Nat} (hk : L.length + 2 ≤ k) :
    word_PutByte.f k L i v b big = some (if i < 0 then ([], 1) else if L.length ≤ i.toNat / n then ([], 1) else (putL p n big L i.toNat v, 0)) := by
  obtain ⟨h1, h2, h3, h4⟩ := h.n
  obtain ⟨k, rfl⟩ : ∃ m, k = m + 1 := ⟨k - 1, by omega⟩
  unfold word_PutByte.f
  rw [(valid_sz h.sz big).1]
  simp only [Option.bind_some, if_true, h4]
  by_cases i0 : i < 0
  · rw [if_pos i0, if_pos i0]; simp [word_PutByte.j0]
  have q0 : (0 : Int) ≤ ((i.toNat / n : Nat) : Int) := Int.natCast_nonneg _
  obtain ⟨d1, d2⟩ := tdiv_nat h1 (show 0 ≤ i by omega) hi
  rw [if_neg i0, if_neg i0, if_neg (by omega), d1]
  by_cases c : L.length ≤ i.toNat / n
  · rw [if_pos c, show decide ((((i.toNat / n : Nat) : Int)) ≥ (L.length : Int)) = true from decide_eq_true (by omega)]; simp [word_PutByte.j0]
  rw [if_neg c, show decide ((((i.toNat / n : Nat) : Int)) ≥ (L.length : Int)) = false from decide_eq_false (by omega)]
  simp only [word_PutByte.j0]
  rw [if_neg (by decide), if_pos (by omega), Int.toNat_natCast, if_pos (by omega)]
  obtain ⟨I, rfl⟩ := Int.eq_ofNat_of_zero_le (show 0 ≤ i by omega)
  rw [Int.toNat_natCast] at *
  have := put_loop h big L I hi v hL (by omega) L.length k 0 (by omega) (by omega)
  simpa using this
theorem putL_length (p : Int) (n : Nat) (big : Bool) (L : List Int) (I : Nat) (v : Int) : (putL p n big L I v).length = L.length := by simp [putL]
end Go.Proofs.Ythllfmbdapdogaa.PWord
