/- Plain laws: bytes of words, packed strings, of the program and of the reference. -/
import Derived.Test.YthllfmbdapdogaaZPWordLists
import Derived.Test.YthllfmbdapdogaaZPPWordx18
import Derived.Test.YthllfmbdapdogaaZPPWordx19
import Derived.Test.YthllfmbdapdogaaZPPWordx20
import Derived.Test.YthllfmbdapdogaaZPPWordx21
namespace Go.Proofs.Ythllfmbdapdogaa.PWord
open Go.RowKit Go.Proofs.YthllfmbdapdogaaW.PrintWords Go.Proofs.YthllfmbdapdogaaW.PrintLast Go.Proofs.YthllfmbdapdogaaW.PrintMore
set_option linter.unusedVariables false
set_option linter.unusedSimpArgs false

def bytesL (n : Nat) (big : Bool) (L : List Int) : List Int := L.flatMap (spl n big)
theorem bytesL_length (n : Nat) (big : Bool) (L : List Int) : (bytesL n big L).length = L.length * n := by
  unfold bytesL
  induction L with
  | nil => simp
  | cons a t ih => rw [List.flatMap_cons, List.length_append, ih, spl_length, List.length_cons, Nat.add_mul]; omega
theorem bytes_in {b p : Int} {n : Nat} (h : Sn b p n) (big : Bool) (L acc : List Int) (w j : Int) (hacc : acc.length ≤ 100000000) : ∀ (d k i : Nat), i + d = n → d < k →
    ∃ q, k = q + d + 1 ∧ word_Bytes.l1 k (n : Int) (acc ++ (List.range i).map fun i => w / 2 ^ (8 * pos n big i) % 256) w L (L.length : Int) j (n : Int) (i : Int) b big = word_Bytes.l0 q (n : Int) (acc ++ spl n big w) L (L.length : Int) (wrap64 (j + 1)) b big := by
  obtain ⟨h1, h2, h3, h4⟩ := h.n
  intro d
  induction d with
  | zero =>
    intro k i hi hk
    obtain ⟨k, rfl⟩ : ∃ q, k = q + 1 := ⟨k - 1, by omega⟩
    refine ⟨k, rfl, ?_⟩
    simp only [word_Bytes.l1]
    rw [if_neg (by omega), show i = n from by omega]
    rfl
  | succ d ih =>
    intro k i hi hk
    obtain ⟨k, rfl⟩ : ∃ q, k = q + 1 := ⟨k - 1, by omega⟩
    obtain ⟨q, e, hq⟩ := ih k (i + 1) (by omega) (by omega)
    refine ⟨q, by omega, ?_⟩
    rw [← hq]
    conv => lhs; unfold word_Bytes.l1
    rw [if_pos (by omega), byte_val h, Nat.mod_eq_of_lt (show i < n by omega)]
    simp only [Option.bind_some]
    rw [if_pos (by simp; omega), w_next (by omega), Int.emod_emod_of_dvd _ (Int.dvd_refl 256), List.range_succ, List.map_append, ← List.append_assoc]
    rfl
theorem bytes_loop {b p : Int} {n : Nat} (h : Sn b p n) (big : Bool) (L : List Int) (hL : L.length ≤ 1000000) : ∀ (d k j : Nat), j + d = L.length → d * 6 + 10 < k →
    word_Bytes.l0 k (n : Int) (bytesL n big (L.take j)) L (L.length : Int) (j : Int) b big = some (bytesL n big L, 0) := by
  obtain ⟨h1, h2, h3, h4⟩ := h.n
  intro d
  induction d with
  | zero =>
    intro k j hj hk
    obtain ⟨k, rfl⟩ : ∃ q, k = q + 1 := ⟨k - 1, by omega⟩
    simp only [word_Bytes.l0]
    rw [if_neg (by omega), List.take_of_length_le (by omega)]
  | succ d ih =>
    intro k j hj hk
    obtain ⟨k, rfl⟩ : ∃ q, k = q + 1 := ⟨k - 1, by omega⟩
    have hlt : j < L.length := by omega
    have hlen : (bytesL n big (L.take j)).length ≤ 100000000 := by
      rw [bytesL_length, List.length_take]
      have : min j L.length * n ≤ 1000000 * 4 := Nat.mul_le_mul (by omega) h2
      omega
    obtain ⟨q, e, hq⟩ := bytes_in h big L (bytesL n big (L.take j)) (rd L (j : Int)) (j : Int) hlen n k 0 (by omega) (by omega)
    simp only [List.range_zero, List.map_nil, List.append_nil] at hq
    simp only [word_Bytes.l0]
    rw [if_pos (by omega), if_pos (by omega), if_pos (by omega), show (0 : Int) = ((0 : Nat) : Int) from rfl, hq, w_next (by omega)]
    have := ih q (j + 1) (by omega) (by omega)
    rw [List.take_succ_eq_append_getElem hlt] at this
    rw [rd_getElem hlt]
    unfold bytesL at this ⊢
    rw [List.flatMap_append] at this
    simpa using this
theorem w_mul {n l : Nat} (hn : n ≤ 4) (hl : l ≤ 1000000) : wrap64 ((n : Int) * (l : Int)) = ((n * l : Nat) : Int) ∧ 0 ≤ ((n * l : Nat) : Int) ∧ ((n * l : Nat) : Int) ≤ 4000000 := by
  have hz : n * l ≤ 4 * 1000000 := Nat.mul_le_mul hn hl
  rw [← Int.natCast_mul]
  generalize n * l = z at hz
  exact ⟨w_id (Int.natCast_nonneg _) (by omega), Int.natCast_nonneg _, by omega⟩
theorem bytes_word {b p : Int} {n : Nat} (h : Sn b p n) (big : Bool) (L : List Int) (hL : L.length ≤ 1000000) {k : Nat} (hk : L.length * 6 + 11 ≤ k) : word_Bytes.f k L b big = some (bytesL n big L, 0) := by
  obtain ⟨h1, h2, h3, h4⟩ := h.n
  unfold word_Bytes.f
  rw [(valid_sz h.sz big).1]
  rw [Option.bind_some, if_pos rfl, h4]
  clear h4
  obtain ⟨e, q0, q1⟩ := w_mul h2 hL
  have := bytes_loop h big L hL L.length k 0 (by omega) (by omega)
  have q2 : n * L.length ≤ 281474976710656 := by omega
  rw [e, if_pos q0, if_pos (by rw [Int.toNat_natCast]; exact q2)]
  simpa [bytesL] using this
theorem ref_bytes_in {n : Nat} (hn : n ≤ 4) (b : Int) (big : Bool) (L acc : List Int) (w j : Int) (hacc : acc.length ≤ 100000000) : ∀ (d k i : Nat), i + d = n → d < k →
    ∃ q, k = q + d + 1 ∧ bluebellref01_Bytes.l1 k L (acc ++ (List.range i).map fun i => w / 2 ^ (8 * pos n big i) % 256) j (spl n big w) (i : Int) b big = bluebellref01_Bytes.l0 q L (acc ++ spl n big w) (wrap64 (j + 1)) b big := by
  intro d
  induction d with
  | zero =>
    intro k i hi hk
    obtain ⟨k, rfl⟩ : ∃ q, k = q + 1 := ⟨k - 1, by omega⟩
    refine ⟨k, rfl, ?_⟩
    simp only [bluebellref01_Bytes.l1]
    rw [if_neg (by rw [spl_length]; omega), show i = n from by omega]
    rfl
  | succ d ih =>
    intro k i hi hk
    obtain ⟨k, rfl⟩ : ∃ q, k = q + 1 := ⟨k - 1, by omega⟩
    obtain ⟨q, e, hq⟩ := ih k (i + 1) (by omega) (by omega)
    refine ⟨q, by omega, ?_⟩
    rw [← hq]
    conv => lhs; unfold bluebellref01_Bytes.l1
    rw [if_pos (by rw [spl_length]; omega), if_pos (by omega), if_pos (by simp; omega), spl_get big w (by omega), w_next (by omega), Int.emod_emod_of_dvd _ (Int.dvd_refl 256), List.range_succ, List.map_append, ← List.append_assoc]
    rfl
theorem ref_bytes_loop {b p : Int} {n : Nat} (h : Sn b p n) (big : Bool) (L : List Int) (hL : L.length ≤ 1000000) : ∀ (d k j : Nat), j + d = L.length → d * 6 + 100 < k →
    bluebellref01_Bytes.l0 k L (bytesL n big (L.take j)) (j : Int) b big = some (bytesL n big L, 0) := by
  obtain ⟨h1, h2, h3, h4⟩ := h.n
  intro d
  induction d with
  | zero =>
    intro k j hj hk
    obtain ⟨k, rfl⟩ : ∃ q, k = q + 1 := ⟨k - 1, by omega⟩
    simp only [bluebellref01_Bytes.l0]
    rw [if_neg (by omega), List.take_of_length_le (by omega)]
  | succ d ih =>
    intro k j hj hk
    obtain ⟨k, rfl⟩ : ∃ q, k = q + 1 := ⟨k - 1, by omega⟩
    have hlt : j < L.length := by omega
    have hlen : (bytesL n big (L.take j)).length ≤ 100000000 := by
      rw [bytesL_length, List.length_take]
      have : min j L.length * n ≤ 1000000 * 4 := Nat.mul_le_mul (by omega) h2
      omega
    obtain ⟨q, e, hq⟩ := ref_bytes_in h2 b big L (bytesL n big (L.take j)) (rd L (j : Int)) (j : Int) hlen n k 0 (by omega) (by omega)
    simp only [List.range_zero, List.map_nil, List.append_nil] at hq
    simp only [bluebellref01_Bytes.l0]
    rw [if_pos (by omega), if_pos (by omega), split_val h big _ (by omega)]
    simp only [Option.bind_some]
    rw [show (0 : Int) = ((0 : Nat) : Int) from rfl, hq, w_next (by omega)]
    have := ih q (j + 1) (by omega) (by omega)
    rw [List.take_succ_eq_append_getElem hlt] at this
    rw [rd_getElem hlt]
    unfold bytesL at this ⊢
    rw [List.flatMap_append] at this
    simpa using this
theorem ref_bytes {b p : Int} {n : Nat} (h : Sn b p n) (big : Bool) (L : List Int) (hL : L.length ≤ 1000000) {k : Nat} (hk : L.length * 6 + 110 ≤ k) : bluebellref01_Bytes.f k L b big = some (bytesL n big L, 0) := by
  unfold bluebellref01_Bytes.f
  rw [(valid_sz h.sz big).2]
  simp only [Option.bind_some, if_true]
  have := ref_bytes_loop h big L hL L.length k 0 (by omega) (by omega)
  simpa [bytesL] using this

/-! Unpack. -/
theorem get_range (n : Nat) (big : Bool) (L : List Int) (I : Nat) : 0 ≤ getv n big L I ∧ getv n big L I ≤ 255 := by unfold getv; omega
theorem fill_set (g : Nat → Int) (k0 j : Nat) (h : j < k0) : ((List.range j).map g ++ List.replicate (k0 - j) 0).set j (g j) = (List.range (j + 1)).map g ++ List.replicate (k0 - (j + 1)) 0 := by
  rw [List.set_append_right _ _ (by simp), List.length_map, List.length_range, Nat.sub_self, show k0 - j = (k0 - (j + 1)) + 1 from by omega, List.replicate_succ, List.set_cons_zero, List.range_succ, List.map_append, List.append_assoc]
  rfl
theorem unpack_loop {b p : Int} {n : Nat} (h : Sn b p n) (big : Bool) (L : List Int) (k0 : Nat) (hk0 : k0 ≤ 255) (hfit : k0 + 1 ≤ n * L.length) : ∀ (d k j : Nat), j + d = k0 → d < k →
    word_Unpack.l0 k L (n : Int) ((List.range j).map (fun j => getv n big L (j + 1)) ++ List.replicate (k0 - j) 0) (k0 : Int) (j : Int) b big = some (strOfNums ((List.range k0).map fun j => getv n big L (j + 1)), 0) := by
  obtain ⟨h1, h2, h3, h4⟩ := h.n
  intro d
  induction d with
  | zero =>
    intro k j hj hk
    obtain ⟨k, rfl⟩ : ∃ q, k = q + 1 := ⟨k - 1, by omega⟩
    simp only [word_Unpack.l0]
    rw [if_neg (by omega), show j = k0 from by omega, Nat.sub_self, List.replicate_zero, List.append_nil]
  | succ d ih =>
    intro k j hj hk
    obtain ⟨k, rfl⟩ : ∃ q, k = q + 1 := ⟨k - 1, by omega⟩
    simp only [word_Unpack.l0]
    have q0 : (0 : Int) ≤ (((j + 1) / n : Nat) : Int) := Int.natCast_nonneg _
    obtain ⟨d1, d2⟩ := tdiv_nat h1 (show 0 ≤ ((j + 1 : Nat) : Int) by omega) (by omega)
    rw [Int.toNat_natCast] at d1 d2
    have hq : (j + 1) / n < L.length := Nat.div_lt_of_lt_mul (by omega)
    have hg := get_range n big L (j + 1)
    rw [if_pos (by omega), if_neg (by omega), w_next (by omega), d1, d2, if_pos q0, if_pos (Int.ofNat_lt.2 hq), byte_val h, Nat.mod_mod]
    simp only [Option.bind_some]
    rw [if_pos (by omega), if_pos (by simp; omega), Int.toNat_natCast, Int.emod_emod_of_dvd _ (Int.dvd_refl 256)]
    have := fill_set (fun j => getv n big L (j + 1)) k0 j (by omega)
    rw [show rd L (((j + 1) / n : Nat) : Int) / 2 ^ (8 * pos n big ((j + 1) % n)) % 256 = getv n big L (j + 1) from rfl, this]
    exact ih k (j + 1) (by omega) (by omega)
def unp (n : Nat) (big : Bool) (L : List Int) : ByteArray × Int := if L.length = 0 then (⟨#[]⟩, 7) else if n * L.length < (getv n big L 0).toNat + 1 then (⟨#[]⟩, 7) else (strOfNums ((List.range (getv n big L 0).toNat).map fun j => getv n big L (j + 1)), 0)
theorem unpack_word {b p : Int} {n : Nat} (h : Sn b p n) (big : Bool) (L : List Int) (hL : L.length ≤ 1000000) {k : Nat} (hk : 260 ≤ k) : word_Unpack.f k L b big = some (unp n big L) := by
  obtain ⟨h1, h2, h3, h4⟩ := h.n
  unfold word_Unpack.f unp
  rw [(valid_sz h.sz big).1]
  simp only [Option.bind_some, if_true, h4]
  by_cases c : L.length = 0
  · rw [if_pos (by omega), if_pos c]
  rw [if_neg (by omega), if_neg c, if_pos (by omega)]
  have hb := byte_val h big (rd L 0) 0
  rw [show ((0 : Nat) : Int) = 0 from rfl, Nat.zero_mod] at hb
  have hg0 : rd L 0 / 2 ^ (8 * pos n big 0) % 256 = getv n big L 0 := by unfold getv; rw [Nat.zero_div, Nat.zero_mod]; rfl
  rw [hb, hg0]
  simp only [Option.bind_some]
  have hg := get_range n big L 0
  obtain ⟨g, hgg⟩ : ∃ g : Nat, getv n big L 0 = g := ⟨(getv n big L 0).toNat, by omega⟩
  rw [hgg, Int.toNat_natCast]
  have hz : n * L.length ≤ 4 * 1000000 := Nat.mul_le_mul h2 hL
  rw [w_next (by omega), ← Int.natCast_mul, w_id (Int.natCast_nonneg _) (by generalize n * L.length = z at *; omega)]
  by_cases c2 : n * L.length < g + 1
  · rw [if_pos (by generalize n * L.length = z at *; omega), if_pos c2]
  rw [if_neg (by generalize n * L.length = z at *; omega), if_neg c2, if_pos (by omega), if_pos (by omega)]
  have := unpack_loop h big L g (by omega) (by omega) g k 0 (by omega) (by omega)
  simpa using this
theorem ref_unpack_loop {b p : Int} {n : Nat} (h : Sn b p n) (big : Bool) (L : List Int) (k0 : Nat) (hk0 : k0 ≤ 255) : ∀ (d k j : Nat), j + d = k0 → d + 60 < k → j + 1 ≤ n * L.length →
    bluebellref01_Unpack.l0 k L (k0 : Int) ((List.range j).map (fun j => getv n big L (j + 1))) ((j + 1 : Nat) : Int) b big = some (if n * L.length < k0 + 1 then (⟨#[]⟩, 7) else (strOfNums ((List.range k0).map fun j => getv n big L (j + 1)), 0)) := by
  obtain ⟨h1, h2, h3, h4⟩ := h.n
  intro d
  induction d with
  | zero =>
    intro k j hj hk hfit
    obtain ⟨k, rfl⟩ : ∃ q, k = q + 1 := ⟨k - 1, by omega⟩
    simp only [bluebellref01_Unpack.l0]
    rw [if_neg (by omega), if_neg (by omega), show j = k0 from by omega]
  | succ d ih =>
    intro k j hj hk hfit
    obtain ⟨k, rfl⟩ : ∃ q, k = q + 1 := ⟨k - 1, by omega⟩
    simp only [bluebellref01_Unpack.l0]
    rw [if_pos (by omega), get_ref h big L _ (by omega) (by omega), if_neg (by omega), Int.toNat_natCast]
    simp only [Option.bind_some]
    have hg := get_range n big L (j + 1)
    by_cases c : L.length ≤ (j + 1) / n
    · have hle : n * L.length ≤ j + 1 := Nat.le_trans (Nat.mul_le_mul_left n c) (Nat.mul_div_le _ _)
      rw [if_pos c, if_neg (by decide), if_pos (by omega)]
    · have hlt : j + 1 < n * L.length := by
        have hd := Nat.div_add_mod (j + 1) n
        have hm := Nat.mod_lt (j + 1) (show 0 < n by omega)
        have : n * ((j + 1) / n + 1) ≤ n * L.length := Nat.mul_le_mul_left n (by omega)
        rw [Nat.mul_add] at this
        omega
      rw [if_neg c]
      simp only [if_true]
      rw [if_pos (by simp; omega), w_next (by omega), Int.emod_eq_of_lt hg.1 (by omega)]
      have := ih k (j + 1) (by omega) (by omega) (by omega)
      rw [List.range_succ, List.map_append] at this
      exact this
theorem ref_unpack {b p : Int} {n : Nat} (h : Sn b p n) (big : Bool) (L : List Int) (hL : L.length ≤ 1000000) {k : Nat} (hk : 400 ≤ k) : bluebellref01_Unpack.f k L b big = some (unp n big L) := by
  obtain ⟨h1, h2, h3, h4⟩ := h.n
  unfold bluebellref01_Unpack.f unp
  rw [(valid_sz h.sz big).2]
  simp only [Option.bind_some, if_true]
  rw [get_ref h big L 0 (by omega) (by omega), if_neg (by omega), Int.toNat_zero, Nat.zero_div]
  by_cases c : L.length = 0
  · rw [if_pos (show L.length ≤ 0 by omega), if_pos c]
    rfl
  rw [if_neg (show ¬ L.length ≤ 0 by omega), if_neg c]
  simp only [Option.bind_some, if_true]
  have hg := get_range n big L 0
  obtain ⟨g, hgg⟩ : ∃ g : Nat, getv n big L 0 = g := ⟨(getv n big L 0).toNat, by omega⟩
  rw [hgg, Int.toNat_natCast]
  have hpos : n * 1 ≤ n * L.length := Nat.mul_le_mul_left n (by omega)
  have := ref_unpack_loop h big L g (by omega) g k 0 (by omega) (by omega) (by omega)
  simpa using this
end Go.Proofs.Ythllfmbdapdogaa.PWord
