/- Plain laws: the reference's bytes of words. -/
import Derived.Test.YthllfmbdapdogaaZPWordByteLaws
namespace Go.Proofs.Ythllfmbdapdogaa.PWord
open Go.RowKit Go.Proofs.YthllfmbdapdogaaW.PrintWords Go.Proofs.YthllfmbdapdogaaW.PrintLast Go.Proofs.YthllfmbdapdogaaW.PrintMore
set_option linter.unusedVariables false
set_option linter.unusedSimpArgs false

theorem w_next {j : Nat} (h : j ≤ 1000000) : wrap64 ((j : Int) + 1) = ((j + 1 : Nat) : Int) := by unfold wrap64; omega
theorem w_back {n j : Nat} (h : j < n) (hn : n ≤ 1000000) : wrap64 (wrap64 ((n : Int) - 1) - (j : Int)) = ((n - 1 - j : Nat) : Int) := by
  have e : wrap64 ((n : Int) - 1) = (n : Int) - 1 := by unfold wrap64; omega
  rw [e]
  clear e
  unfold wrap64; omega
theorem w_id {x : Int} (h : 0 ≤ x) (h2 : x ≤ 1000000000000000) : wrap64 x = x := by unfold wrap64; omega
/-- The bytes of a word in their order. -/
def spl (n : Nat) (big : Bool) (w : Int) : List Int := (List.range n).map fun i => w / 2 ^ (8 * pos n big i) % 256
theorem spl_length (n : Nat) (big : Bool) (w : Int) : (spl n big w).length = n := by simp [spl]
theorem spl_get {n i : Nat} (big : Bool) (w : Int) (h : i < n) : rd (spl n big w) (i : Int) = w / 2 ^ (8 * pos n big i) % 256 := by
  unfold rd spl
  rw [Int.toNat_natCast]
  simp [List.getD_eq_getElem?_getD, h]
def fill (n : Nat) (big : Bool) : Nat → Nat → Int → List Int → List Int
  | 0, _, _, L => L
  | d + 1, j, u, L => fill n big d (j + 1) (u / 256) (L.set (pos n big j) (u % 256))
theorem split_loop {n : Nat} (hn : n ≤ 4) (b : Int) (big : Bool) : ∀ (d k j : Nat) (u : Int) (L : List Int), j + d = n → L.length = n → 0 ≤ u → u ≤ 4294967296 → d < k → bluebellref01_split.l0 k u L (j : Int) b big = some (fill n big d j u L) := by
  intro d
  induction d with
  | zero =>
    intro k j u L hj hL h0 h1 hk
    obtain ⟨k, rfl⟩ : ∃ m, k = m + 1 := ⟨k - 1, by omega⟩
    simp only [bluebellref01_split.l0, fill]
    rw [if_neg (by omega)]
  | succ d ih =>
    intro k j u L hj hL h0 h1 hk
    obtain ⟨k, rfl⟩ : ∃ m, k = m + 1 := ⟨k - 1, by omega⟩
    simp only [bluebellref01_split.l0, fill]
    rw [if_pos (by omega), Int.tdiv_eq_ediv_of_nonneg h0, Int.tmod_eq_emod_of_nonneg h0, w_id (x := u / 256) (by omega) (by omega), w_next (by omega), hL, w_back (by omega) (by omega)]
    have hr := ih k (j + 1) (u / 256) (L.set (pos n big j) (u % 256)) (by omega) (by simp [hL]) (by omega) (by omega) (by omega)
    cases big
    · rw [if_neg (by decide), if_pos (by omega), Int.toNat_natCast]
      exact hr
    · rw [if_pos rfl, if_pos (by omega), if_pos (by omega), Int.toNat_natCast]
      exact hr
theorem split_val {b p : Int} {n : Nat} (h : Sn b p n) (big : Bool) (w : Int) {k : Nat} (hk : 50 ≤ k) : bluebellref01_split.f k w b big = some (spl n big w) := by
  obtain ⟨h1, h2, h3, h4⟩ := h.n
  have hp := sz_pos h.sz
  have u0 := Int.emod_nonneg w (show p ≠ 0 by omega)
  have u1 := Int.emod_lt_of_pos w hp
  have hp32 : p ≤ 4294967296 := by rcases h with ⟨_, rfl, _⟩ | ⟨_, rfl, _⟩ | ⟨_, rfl, _⟩ <;> decide
  unfold bluebellref01_split.f bluebellref01_size.f
  rw [unsigned_ge h.sz (by omega)]
  simp only [Option.bind_some, h4]
  rw [if_pos (by omega), Int.toNat_natCast, if_pos (by omega)]
  refine (split_loop h2 b big n k 0 (w % p) (List.replicate n 0) (by omega) (by simp) u0 (by omega) (by omega)).trans ?_
  congr 1
  rcases h with ⟨_, rfl, rfl⟩ | ⟨_, rfl, rfl⟩ | ⟨_, rfl, rfl⟩ <;> cases big <;> simp [fill, spl, pos, List.range_succ, List.replicate] <;> omega
/-- The number that bytes in their order make. -/
def jn (n : Nat) (big : Bool) (L : List Int) : Nat → Nat → Int → Int
  | 0, _, v => v
  | d + 1, j, v => jn n big L d (j + 1) (v * 256 + L.getD (if big = true then j else n - 1 - j) 0)
theorem getD_byte {L : List Int} (hB : ∀ x ∈ L, 0 ≤ x ∧ x ≤ 255) (i : Nat) : 0 ≤ L.getD i 0 ∧ L.getD i 0 ≤ 255 := by
  by_cases h : i < L.length
  · rw [List.getD_eq_getElem?_getD, List.getElem?_eq_getElem h]
    exact hB _ (List.getElem_mem h)
  · rw [List.getD_eq_getElem?_getD, List.getElem?_eq_none (by omega)]; decide
theorem join_loop {b p : Int} {n : Nat} (h : Sn b p n) (big : Bool) (L : List Int) (hL : L.length = n) (hB : ∀ x ∈ L, 0 ≤ x ∧ x ≤ 255) : ∀ (d k j : Nat) (v : Int), j + d = n → 0 ≤ v → v < 2 ^ (8 * j) → d + 45 < k → bluebellref01_join.l0 k L v (j : Int) b big = some (nm p (jn n big L d j v)) := by
  obtain ⟨h1, h2, h3, h4⟩ := h.n
  intro d
  induction d with
  | zero =>
    intro k j v hj h0 hv hk
    obtain ⟨k, rfl⟩ : ∃ m, k = m + 1 := ⟨k - 1, by omega⟩
    simp only [bluebellref01_join.l0, jn]
    rw [if_neg (by omega), norm_ge h.sz (by omega)]
    rfl
  | succ d ih =>
    intro k j v hj h0 hv hk
    obtain ⟨k, rfl⟩ : ∃ m, k = m + 1 := ⟨k - 1, by omega⟩
    simp only [bluebellref01_join.l0, jn]
    have hp : (2 : Int) ^ (8 * (j + 1)) = 2 ^ (8 * j) * 256 := by rw [Nat.mul_add, Int.pow_add]; rfl
    have hp32 := pow_le_32 (n := 8 * j) (by omega)
    have g1 := getD_byte hB j
    have g2 := getD_byte hB (n - 1 - j)
    have r1 : rd L (j : Int) = L.getD j 0 := by unfold rd; rw [Int.toNat_natCast]
    have r2 : rd L ((n - 1 - j : Nat) : Int) = L.getD (n - 1 - j) 0 := by unfold rd; rw [Int.toNat_natCast]
    rw [if_pos (by omega), w_next (by omega), hL, w_back (by omega) (by omega), r1, r2, w_id (x := v * 256) (by omega) (by omega)]
    cases big
    · rw [if_neg (by decide), if_pos (by omega), if_pos (by omega), w_id (x := v * 256 + L.getD (n - 1 - j) 0) (by omega) (by omega)]
      exact ih k (j + 1) _ (by omega) (by omega) (by rw [hp]; omega) (by omega)
    · rw [if_pos rfl, if_pos (by omega), w_id (x := v * 256 + L.getD j 0) (by omega) (by omega)]
      exact ih k (j + 1) _ (by omega) (by omega) (by rw [hp]; omega) (by omega)
theorem join_val {b p : Int} {n : Nat} (h : Sn b p n) (big : Bool) (L : List Int) (hL : L.length = n) (hB : ∀ x ∈ L, 0 ≤ x ∧ x ≤ 255) {k : Nat} (hk : 60 ≤ k) : bluebellref01_join.f k L b big = some (nm p (jn n big L n 0 0)) := by
  obtain ⟨h1, h2, h3, h4⟩ := h.n
  exact join_loop h big L hL hB n k 0 0 (by omega) (by omega) (by omega) (by omega)
end Go.Proofs.Ythllfmbdapdogaa.PWord
