/- Plain laws: words of bytes and bytes of words, of the program and of the reference. -/
import Derived.Test.YthllfmbdapdogaaZPWordPut
import Derived.Test.YthllfmbdapdogaaZPPWordx21
namespace Go.Proofs.Ythllfmbdapdogaa.PWord
open Go.RowKit Go.Proofs.YthllfmbdapdogaaW.PrintWords Go.Proofs.YthllfmbdapdogaaW.PrintLast Go.Proofs.YthllfmbdapdogaaW.PrintMore
set_option linter.unusedVariables false
set_option linter.unusedSimpArgs false

/-- A word that is made byte by byte. -/
def part (p : Int) (n : Nat) (big : Bool) (c : Nat → Int) : Nat → Int
  | 0 => 0
  | i + 1 => put p (pos n big i) (c i) (part p n big c i)
theorem part_full {b p : Int} {n : Nat} (h : Sn b p n) (big : Bool) (c : Nat → Int) (hc : ∀ i, 0 ≤ c i ∧ c i ≤ 255) : part p n big c n = nm p (jn n big ((List.range n).map c) n 0 0) := by
  have a0 := hc 0
  have a1 := hc 1
  have a2 := hc 2
  have a3 := hc 3
  rcases h with ⟨_, rfl, rfl⟩ | ⟨_, rfl, rfl⟩ | ⟨_, rfl, rfl⟩
  · cases big <;> simp [part, put, jn, pos, List.range_succ, nm] <;> generalize c 0 = x at * <;> generalize c 1 = y at * <;> omega
  · cases big <;> simp [part, put, jn, pos, List.range_succ, nm] <;> generalize c 0 = x at * <;> generalize c 1 = y at * <;> generalize c 2 = z at * <;> omega
  · cases big <;> simp [part, put, jn, pos, List.range_succ, nm] <;> generalize c 0 = x at * <;> generalize c 1 = y at * <;> generalize c 2 = z at * <;> generalize c 3 = u at * <;> omega
/-- Words of bytes: m words of n bytes each. -/
def wordsL (p : Int) (n : Nat) (big : Bool) (B : List Int) (m : Nat) : List Int := (List.range m).map fun r => nm p (jn n big ((List.range n).map fun i => rd B ((r * n + i : Nat) : Int)) n 0 0)
theorem rd_byte {B : List Int} (hB : ∀ x ∈ B, 0 ≤ x ∧ x ≤ 255) (j : Nat) : 0 ≤ rd B (j : Int) ∧ rd B (j : Int) ≤ 255 := by
  rw [rd_nat]; exact getD_byte hB j
def partsL (p : Int) (n : Nat) (big : Bool) (B : List Int) (m t : Nat) : List Int := (List.range m).map fun r => part p n big (fun i => rd B ((r * n + i : Nat) : Int)) (min n (t - r * n))
theorem parts_get {p : Int} {n : Nat} {big : Bool} {B : List Int} {m t r : Nat} (h : r < (partsL p n big B m t).length) : (partsL p n big B m t)[r] = part p n big (fun i => rd B ((r * n + i : Nat) : Int)) (min n (t - r * n)) := by simp [partsL]
theorem parts_step {p : Int} {n : Nat} (hn : 0 < n) (big : Bool) (B : List Int) (m t : Nat) (ht : t < m * n) :
    (partsL p n big B m t).set (t / n) (put p (pos n big (t % n)) (rd B (t : Int)) (rd (partsL p n big B m t) ((t / n : Nat) : Int))) = partsL p n big B m (t + 1) := by
  have hdm := Nat.div_add_mod t n
  have hm := Nat.mod_lt t hn
  have hq : t / n < m := Nat.div_lt_of_lt_mul (by rw [Nat.mul_comm]; exact ht)
  have hlen : ∀ t, (partsL p n big B m t).length = m := fun t => by simp [partsL]
  have hcomm : n * (t / n) = t / n * n := Nat.mul_comm _ _
  apply List.ext_getElem
  · rw [List.length_set, hlen, hlen]
  · intro r h1 h2
    rw [hlen] at h2
    rw [List.getElem_set]
    by_cases c : t / n = r
    · rw [if_pos c, rd_getElem (L := partsL p n big B m t) (by rw [hlen]; omega)]
      subst c
      rw [parts_get, parts_get]
      have e1 : min n (t - t / n * n) = t % n := by omega
      have e2 : min n (t + 1 - t / n * n) = t % n + 1 := by omega
      rw [e1, e2, part]
      congr 2
      omega
    · rw [if_neg c]
      rw [parts_get, parts_get]
      congr 1
      rcases Nat.lt_or_gt_of_ne c with d | d
      · have : (t / n + 1) * n ≤ r * n := Nat.mul_le_mul_right n d
        rw [Nat.add_mul, Nat.one_mul] at this
        omega
      · have : (r + 1) * n ≤ t / n * n := Nat.mul_le_mul_right n d
        rw [Nat.add_mul, Nat.one_mul] at this
        omega
theorem parts_zero (p : Int) (n : Nat) (big : Bool) (B : List Int) (m : Nat) : partsL p n big B m 0 = List.replicate m 0 := by
  unfold partsL
  apply List.ext_getElem
  · simp
  · intro r h1 h2; simp [part]
theorem parts_full {b p : Int} {n : Nat} (h : Sn b p n) (big : Bool) (B : List Int) (hB : ∀ x ∈ B, 0 ≤ x ∧ x ≤ 255) (m : Nat) : partsL p n big B m (m * n) = wordsL p n big B m := by
  unfold partsL wordsL
  refine List.map_congr_left fun r hr => ?_
  have hr' : r < m := List.mem_range.1 hr
  have : (r + 1) * n ≤ m * n := Nat.mul_le_mul_right n hr'
  rw [Nat.add_mul, Nat.one_mul] at this
  rw [show min n (m * n - r * n) = n from by omega, part_full h big _ (fun i => rd_byte hB _)]
theorem words_loop {b p : Int} {n : Nat} (h : Sn b p n) (big : Bool) (B : List Int) (hB : ∀ x ∈ B, 0 ≤ x ∧ x ≤ 255) (m : Nat) (hm : B.length = m * n) (hL : B.length ≤ 1000000) : ∀ (d k t : Nat), t + d = B.length → d < k →
    word_Words.l0 k (n : Int) (partsL p n big B m t) B (B.length : Int) (t : Int) b big = some (wordsL p n big B m, 0) := by
  obtain ⟨h1, h2, h3, h4⟩ := h.n
  intro d
  induction d with
  | zero =>
    intro k t ht hk
    obtain ⟨k, rfl⟩ : ∃ q, k = q + 1 := ⟨k - 1, by omega⟩
    simp only [word_Words.l0]
    rw [if_neg (by omega), show t = m * n from by omega, parts_full h big B hB]
  | succ d ih =>
    intro k t ht hk
    obtain ⟨k, rfl⟩ : ∃ q, k = q + 1 := ⟨k - 1, by omega⟩
    simp only [word_Words.l0]
    have q0 : (0 : Int) ≤ ((t / n : Nat) : Int) := Int.natCast_nonneg _
    obtain ⟨d1, d2⟩ := tdiv_nat h1 (show 0 ≤ (t : Int) by omega) (by omega)
    rw [Int.toNat_natCast] at d1 d2
    have hq : t / n < m := Nat.div_lt_of_lt_mul (by rw [Nat.mul_comm]; omega)
    have hlen : (partsL p n big B m t).length = m := by simp [partsL]
    have hb := rd_byte hB t
    rw [if_pos (by omega), if_pos (by omega), if_pos (by omega), if_neg (by omega), d1, d2, if_pos q0, if_pos (by rw [hlen]; exact Int.ofNat_lt.2 hq), w_id (x := rd B (t : Int)) (by omega) (by omega), with_val h]
    simp only [Option.bind_some, Int.toNat_natCast]
    rw [Nat.mod_mod, parts_step (by omega) big B m t (by omega), w_next (by omega)]
    exact ih k (t + 1) (by omega) (by omega)
theorem words_word {b p : Int} {n : Nat} (h : Sn b p n) (big : Bool) (B : List Int) (hB : ∀ x ∈ B, 0 ≤ x ∧ x ≤ 255) (hL : B.length ≤ 1000000) {k : Nat} (hk : B.length + 3 ≤ k) :
    word_Words.f k B b big = some (if B.length % n = 0 then (wordsL p n big B (B.length / n), 0) else ([], 3)) := by
  obtain ⟨h1, h2, h3, h4⟩ := h.n
  obtain ⟨k, rfl⟩ : ∃ m, k = m + 1 := ⟨k - 1, by omega⟩
  unfold word_Words.f
  rw [(valid_sz h.sz big).1]
  simp only [Option.bind_some, if_true, h4]
  rw [if_neg (by omega), ← Int.natCast_emod]
  by_cases c : B.length % n = 0
  · rw [if_pos c, c]
    simp only [Int.natCast_zero, bne_self_eq_false, word_Words.j0, Bool.false_eq_true, if_false, h4]
    have q0 : (0 : Int) ≤ ((B.length / n : Nat) : Int) := Int.natCast_nonneg _
    have hle := Nat.div_le_self B.length n
    have hdm := Nat.div_add_mod B.length n
    have e : wrap64 ((B.length : Int) / (n : Int)) = ((B.length / n : Nat) : Int) := by
      rw [← Int.natCast_ediv]
      generalize B.length / n = Q at *
      exact w_id (by omega) (by omega)
    rw [if_neg (by omega), e, if_pos q0, Int.toNat_natCast, if_pos (by omega)]
    have hm : B.length = B.length / n * n := by rw [Nat.mul_comm]; omega
    have := words_loop h big B hB (B.length / n) hm hL B.length k 0 (by omega) (by omega)
    rw [parts_zero] at this
    exact this
  · rw [if_neg c]
    have e : ((((B.length % n : Nat) : Int)) != 0) = true := by rw [bne_iff_ne]; omega
    rw [e]
    simp [word_Words.j0]
theorem ref_words_in {b p : Int} {n : Nat} (h : Sn b p n) (big : Bool) (B : List Int) (hB : ∀ x ∈ B, 0 ≤ x ∧ x ≤ 255) (hL : B.length ≤ 1000000) (r : Nat) (acc : List Int) (hacc : acc.length ≤ 1000000) (hr : r * n + n ≤ B.length) : ∀ (d k i : Nat), i + d = n → d + 70 < k →
    ∃ q, k = q + d + 1 ∧ bluebellref01_Words.l1 k B acc ((r * n : Nat) : Int) ((List.range i).map fun j => rd B ((r * n + j : Nat) : Int)) (i : Int) b big = bluebellref01_Words.l0 q B (acc ++ [nm p (jn n big ((List.range n).map fun j => rd B ((r * n + j : Nat) : Int)) n 0 0)]) (((r + 1) * n : Nat) : Int) b big := by
  obtain ⟨h1, h2, h3, h4⟩ := h.n
  intro d
  induction d with
  | zero =>
    intro k i hi hk
    obtain ⟨k, rfl⟩ : ∃ q, k = q + 1 := ⟨k - 1, by omega⟩
    refine ⟨k, rfl, ?_⟩
    have hin : i = n := by omega
    subst hin
    simp only [bluebellref01_Words.l1, bluebellref01_size.f, h4, Option.bind_some]
    rw [if_neg (by omega), join_val h big _ (by simp) (fun x hx => by
      obtain ⟨j, _, rfl⟩ := List.mem_map.1 hx
      exact rd_byte hB _) (by omega)]
    simp only [Option.bind_some]
    rw [if_pos (by omega), w_id (by omega) (by omega), Nat.add_mul, Nat.one_mul, Int.natCast_add]
  | succ d ih =>
    intro k i hi hk
    obtain ⟨k, rfl⟩ : ∃ q, k = q + 1 := ⟨k - 1, by omega⟩
    obtain ⟨q, e, hq⟩ := ih k (i + 1) (by omega) (by omega)
    refine ⟨q, by omega, ?_⟩
    rw [← hq]
    conv => lhs; unfold bluebellref01_Words.l1
    simp only [bluebellref01_size.f, h4, Option.bind_some]
    have hb := rd_byte hB (r * n + i)
    have hz : r * n + i < B.length := by omega
    rw [if_pos (by omega), ← Int.natCast_add, w_id (Int.natCast_nonneg _) (by omega), if_pos (Int.natCast_nonneg _), if_pos (Int.ofNat_lt.2 hz), if_pos (by simp; omega), w_id hb.1 (by omega), w_next (by omega), List.range_succ, List.map_append]
    rfl
theorem ref_words_loop {b p : Int} {n : Nat} (h : Sn b p n) (big : Bool) (B : List Int) (hB : ∀ x ∈ B, 0 ≤ x ∧ x ≤ 255) (m : Nat) (hm : B.length = m * n) (hL : B.length ≤ 1000000) : ∀ (d k r : Nat), r + d = m → d * 6 + 100 < k →
    bluebellref01_Words.l0 k B (wordsL p n big B r) ((r * n : Nat) : Int) b big = some (wordsL p n big B m, 0) := by
  obtain ⟨h1, h2, h3, h4⟩ := h.n
  intro d
  induction d with
  | zero =>
    intro k r hr hk
    obtain ⟨k, rfl⟩ : ∃ q, k = q + 1 := ⟨k - 1, by omega⟩
    simp only [bluebellref01_Words.l0]
    rw [show r = m from by omega, if_neg (by omega)]
  | succ d ih =>
    intro k r hr hk
    obtain ⟨k, rfl⟩ : ∃ q, k = q + 1 := ⟨k - 1, by omega⟩
    have hle : (r + 1) * n ≤ m * n := Nat.mul_le_mul_right n (by omega)
    rw [Nat.add_mul, Nat.one_mul] at hle
    have hrm : r ≤ r * n := Nat.le_mul_of_pos_right r (by omega)
    obtain ⟨q, e, hq⟩ := ref_words_in h big B hB hL r (wordsL p n big B r) (by simp [wordsL]; omega) (by omega) n k 0 (by omega) (by omega)
    simp only [bluebellref01_Words.l0]
    rw [if_pos (by generalize r * n = z at *; omega)]
    have hq' := hq
    simp only [List.range_zero, List.map_nil] at hq'
    rw [show (0 : Int) = ((0 : Nat) : Int) from rfl, hq']
    have := ih q (r + 1) (by omega) (by omega)
    unfold wordsL at this ⊢
    rw [List.range_succ, List.map_append] at this
    exact this
theorem ref_words {b p : Int} {n : Nat} (h : Sn b p n) (big : Bool) (B : List Int) (hB : ∀ x ∈ B, 0 ≤ x ∧ x ≤ 255) (hL : B.length ≤ 1000000) {k : Nat} (hk : B.length * 6 + 110 ≤ k) :
    bluebellref01_Words.f k B b big = some (if B.length % n = 0 then (wordsL p n big B (B.length / n), 0) else ([], 3)) := by
  obtain ⟨h1, h2, h3, h4⟩ := h.n
  obtain ⟨k, rfl⟩ : ∃ m, k = m + 1 := ⟨k - 1, by omega⟩
  unfold bluebellref01_Words.f bluebellref01_size.f
  rw [(valid_sz h.sz big).2]
  simp only [Option.bind_some, if_true, h4]
  rw [if_neg (by omega), ← Int.natCast_emod]
  by_cases c : B.length % n = 0
  · rw [if_pos c, c]
    simp only [bluebellref01_Words.j0]
    rw [if_neg (by decide)]
    have hdm := Nat.div_add_mod B.length n
    have hm : B.length = B.length / n * n := by rw [Nat.mul_comm]; omega
    have hle := Nat.div_le_self B.length n
    have := ref_words_loop h big B hB (B.length / n) hm hL (B.length / n) k 0 (by omega) (by generalize B.length / n = Q at *; omega)
    simpa [wordsL] using this
  · rw [if_neg c, show decide ((((B.length % n : Nat) : Int)) > 0) = true from decide_eq_true (by omega)]
    simp [bluebellref01_Words.j0]
end Go.Proofs.Ythllfmbdapdogaa.PWord
