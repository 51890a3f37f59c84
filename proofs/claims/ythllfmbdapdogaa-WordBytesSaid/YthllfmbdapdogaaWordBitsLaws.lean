/- Plain laws on words: norming, and bits of whole numbers as sums. -/
import Derived.Test.YthllfmbdapdogaaPWordx4
namespace Go.Proofs.Ythllfmbdapdogaa.PWord
open Go.RowKit Go.Proofs.YthllfmbdapdogaaW.PrintWords Go.Proofs.YthllfmbdapdogaaW.PrintLast Go.Proofs.YthllfmbdapdogaaW.PrintMore

theorem sz_pos {b p : Int} (h : Sz b p) : 0 < p := by rcases h with ⟨_, h⟩ | ⟨_, h⟩ | ⟨_, h⟩ <;> omega
theorem sz_pow {b p : Int} (h : Sz b p) : p = 2 ^ b.toNat ∧ b.toNat ≤ 32 ∧ (b.toNat : Int) = b := by
  rcases h with ⟨rfl, rfl⟩ | ⟨rfl, rfl⟩ | ⟨rfl, rfl⟩ <;> decide
theorem nm_mod {b p : Int} (h : Sz b p) (v : Int) : nm p (v % p) = nm p v := by
  unfold nm; rcases h with ⟨_, rfl⟩ | ⟨_, rfl⟩ | ⟨_, rfl⟩ <;> omega
theorem nm_wrap {b p : Int} (h : Sz b p) (v : Int) : nm p (wrap64 v) = nm p v := by
  unfold nm wrap64; rcases h with ⟨_, rfl⟩ | ⟨_, rfl⟩ | ⟨_, rfl⟩ <;> omega
theorem nm_range {b p : Int} (h : Sz b p) (v : Int) : -(p / 2) ≤ nm p v ∧ nm p v < p / 2 := by
  unfold nm; rcases h with ⟨_, rfl⟩ | ⟨_, rfl⟩ | ⟨_, rfl⟩ <;> omega
theorem nm_self {b p : Int} (h : Sz b p) {v : Int} (h1 : -(p / 2) ≤ v) (h2 : v < p / 2) : nm p v = v := by
  unfold nm; rcases h with ⟨_, rfl⟩ | ⟨_, rfl⟩ | ⟨_, rfl⟩ <;> omega
theorem nm_congr {b p : Int} (h : Sz b p) {v w : Int} (e : v % p = w % p) : nm p v = nm p w := by rw [← nm_mod h v, e, nm_mod h w]
theorem nm_emod {b p : Int} (h : Sz b p) (v : Int) : nm p v % p = v % p := by
  unfold nm; rcases h with ⟨_, rfl⟩ | ⟨_, rfl⟩ | ⟨_, rfl⟩ <;> omega
theorem nm_nm {b p : Int} (h : Sz b p) (v : Int) : nm p (nm p v) = nm p v := nm_self h (nm_range h v).1 (nm_range h v).2
theorem nm_small {b p : Int} (h : Sz b p) (v : Int) : -2147483648 ≤ nm p v ∧ nm p v ≤ 2147483647 := by
  unfold nm; rcases h with ⟨_, rfl⟩ | ⟨_, rfl⟩ | ⟨_, rfl⟩ <;> omega

/-- word.norm is the same. -/
theorem norm_word {b p : Int} (h : Sz b p) (v : Int) : word_norm.f v b = some (nm p v) := by
  have key : ∀ m : Nat, m ≤ 64 → word_norm.f v (64 - m) = some (wrap64 (v * 2 ^ m) / 2 ^ m) := by
    intro m hm
    have e : wrap64 (64 - (64 - (m : Int))) = m := by unfold wrap64; omega
    unfold word_norm.f
    rw [e, if_pos (by omega)]
    unfold shl shr
    rw [Int.toNat_natCast, Nat.min_eq_left (show m ≤ IntKind.i64.bits from hm), i64_w]
  rcases h with ⟨rfl, rfl⟩ | ⟨rfl, rfl⟩ | ⟨rfl, rfl⟩
  · have h := key 48 (by omega)
    simp only [show (64 : Int) - ((48 : Nat) : Int) = 16 from rfl] at h
    rw [h]; congr 1; unfold wrap64 nm; omega
  · have h := key 40 (by omega)
    simp only [show (64 : Int) - ((40 : Nat) : Int) = 24 from rfl] at h
    rw [h]; congr 1; unfold wrap64 nm; omega
  · have h := key 32 (by omega)
    simp only [show (64 : Int) - ((32 : Nat) : Int) = 32 from rfl] at h
    rw [h]; congr 1; unfold wrap64 nm; omega

/-! Sums of bits. -/
theorem two_pow_pos (n : Nat) : (0 : Int) < 2 ^ n := Int.pow_pos (by omega)
theorem emod_two_mul (a m : Int) (hm : 0 < m) : a % (m * 2) = a % 2 + 2 * (a / 2 % m) := by
  have h1 := Int.emod_add_mul_ediv a 2
  have h2 := Int.emod_add_mul_ediv (a / 2) m
  have h3 := Int.emod_nonneg (a / 2) (show m ≠ 0 by omega)
  have h4 := Int.emod_lt_of_pos (a / 2) hm
  have h5 : (a % 2 + 2 * (a / 2 % m)) + (m * 2) * (a / 2 / m) = a := by
    generalize a / 2 / m = q at *
    have : m * 2 * q = 2 * (m * q) := by rw [Int.mul_assoc, Int.mul_comm 2 q, ← Int.mul_assoc, Int.mul_comm]
    omega
  have := (Int.ediv_emod_unique (a := a) (b := m * 2) (r := a % 2 + 2 * (a / 2 % m)) (q := a / 2 / m) (by omega)).2 ⟨h5, by omega, by omega⟩
  exact this.2
theorem bitsum_congr (t0 t1 t2 t3 : Int) (n : Nat) : ∀ a b c d : Int, a % 2 ^ n = c % 2 ^ n → b % 2 ^ n = d % 2 ^ n → bitsum t0 t1 t2 t3 n a b = bitsum t0 t1 t2 t3 n c d := by
  induction n with
  | zero => intros; rfl
  | succ n ih =>
    intro a b c d h k
    have hp := two_pow_pos n
    rw [Int.pow_succ, emod_two_mul _ _ hp, emod_two_mul _ _ hp] at h k
    have e1 := Int.emod_nonneg (a / 2) (show (2 : Int) ^ n ≠ 0 by omega)
    have e2 := Int.emod_nonneg (c / 2) (show (2 : Int) ^ n ≠ 0 by omega)
    have e3 := Int.emod_nonneg (b / 2) (show (2 : Int) ^ n ≠ 0 by omega)
    have e4 := Int.emod_nonneg (d / 2) (show (2 : Int) ^ n ≠ 0 by omega)
    have g1 : a % 2 = c % 2 := by omega
    have g2 : b % 2 = d % 2 := by omega
    rw [bitsum, bitsum, ih (a / 2) (b / 2) (c / 2) (d / 2) (by omega) (by omega)]
    unfold tab
    rw [g1, g2]
theorem nat_mod_succ (x n : Nat) : x % 2 ^ (n + 1) = x % 2 + 2 * (x / 2 % 2 ^ n) := by rw [Nat.pow_succ, Nat.mul_comm, Nat.mod_mul]
theorem bitsum_and (n : Nat) : ∀ a b : Nat, bitsum 0 0 0 1 n a b = ((a &&& b) % 2 ^ n : Nat) := by
  induction n with
  | zero => intro a b; simp [bitsum, Nat.mod_one]
  | succ n ih =>
    intro a b
    rw [bitsum, nat_mod_succ, Nat.and_div_two]
    have := ih (a / 2) (b / 2)
    rw [Int.natCast_ediv, Int.natCast_ediv] at this
    have h := Nat.and_mod_two_eq_one (a := a) (b := b)
    have ht : tab 0 0 0 1 (a : Int) b = ((a &&& b) % 2 : Nat) := by
      unfold tab
      repeat' split
      all_goals omega
    rw [ht]
    rw [show ((2 : Nat) : Int) = 2 from rfl] at this
    omega
theorem bitsum_or (n : Nat) : ∀ a b : Nat, bitsum 0 1 1 1 n a b = ((a ||| b) % 2 ^ n : Nat) := by
  induction n with
  | zero => intro a b; simp [bitsum, Nat.mod_one]
  | succ n ih =>
    intro a b
    rw [bitsum, nat_mod_succ, Nat.or_div_two]
    have := ih (a / 2) (b / 2)
    rw [Int.natCast_ediv, Int.natCast_ediv] at this
    have h := Nat.or_mod_two_eq_one (a := a) (b := b)
    have ht : tab 0 1 1 1 (a : Int) b = ((a ||| b) % 2 : Nat) := by
      unfold tab
      repeat' split
      all_goals omega
    rw [ht]
    rw [show ((2 : Nat) : Int) = 2 from rfl] at this
    omega
theorem bitsum_xor (n : Nat) : ∀ a b : Nat, bitsum 0 1 1 0 n a b = ((a ^^^ b) % 2 ^ n : Nat) := by
  induction n with
  | zero => intro a b; simp [bitsum, Nat.mod_one]
  | succ n ih =>
    intro a b
    rw [bitsum, nat_mod_succ, Nat.xor_div_two]
    have := ih (a / 2) (b / 2)
    rw [Int.natCast_ediv, Int.natCast_ediv] at this
    have h := Nat.xor_mod_two_eq_one (a := a) (b := b)
    have ht : tab 0 1 1 0 (a : Int) b = ((a ^^^ b) % 2 : Nat) := by
      unfold tab
      repeat' split
      all_goals omega
    rw [ht]
    rw [show ((2 : Nat) : Int) = 2 from rfl] at this
    omega
theorem bitsum_eqv (n : Nat) : ∀ a b : Int, bitsum 1 0 0 1 n a b + bitsum 0 1 1 0 n a b = 2 ^ n - 1 := by
  induction n with
  | zero => intro a b; simp [bitsum]
  | succ n ih =>
    intro a b
    have := ih (a / 2) (b / 2)
    rw [bitsum, bitsum, Int.pow_succ]
    have ht : tab 1 0 0 1 a b + tab 0 1 1 0 a b = 1 := by
      unfold tab
      repeat' split
      all_goals omega
    omega
/-- The low 64 bits of a number. -/
def low (x : Int) : Nat := (x % 18446744073709551616).toNat
theorem low_cast (x : Int) : ((low x : Nat) : Int) = x % 18446744073709551616 := by unfold low; omega
theorem bits_low_and (x y : Int) : Go.bits .and .i64 x y = wrap64 ((low x &&& low y : Nat) : Int) := by
  have e : Go.bits .and .i64 x y = wrap64 ((BitVec.ofInt 64 x &&& BitVec.ofInt 64 y).toNat : Int) := by
    unfold Go.bits; rw [i64_w]; rfl
  rw [e, BitVec.toNat_and, BitVec.toNat_ofInt, BitVec.toNat_ofInt]; rfl
theorem bits_low_or (x y : Int) : Go.bits .or .i64 x y = wrap64 ((low x ||| low y : Nat) : Int) := by
  have e : Go.bits .or .i64 x y = wrap64 ((BitVec.ofInt 64 x ||| BitVec.ofInt 64 y).toNat : Int) := by
    unfold Go.bits; rw [i64_w]; rfl
  rw [e, BitVec.toNat_or, BitVec.toNat_ofInt, BitVec.toNat_ofInt]; rfl
theorem bits_low_xor (x y : Int) : Go.bits .xor .i64 x y = wrap64 ((low x ^^^ low y : Nat) : Int) := by
  have e : Go.bits .xor .i64 x y = wrap64 ((BitVec.ofInt 64 x ^^^ BitVec.ofInt 64 y).toNat : Int) := by
    unfold Go.bits; rw [i64_w]; rfl
  rw [e, BitVec.toNat_xor, BitVec.toNat_ofInt, BitVec.toNat_ofInt]; rfl
theorem wrap_mod {b p : Int} (h : Sz b p) (z : Int) : wrap64 z % p = z % p := by
  unfold wrap64; rcases h with ⟨_, rfl⟩ | ⟨_, rfl⟩ | ⟨_, rfl⟩ <;> omega
theorem low_mod {b p : Int} (h : Sz b p) (x : Int) : ((low x : Nat) : Int) % p = x % p := by
  rw [low_cast]; rcases h with ⟨_, rfl⟩ | ⟨_, rfl⟩ | ⟨_, rfl⟩ <;> omega
theorem bitsum_low {b p : Int} (h : Sz b p) (t0 t1 t2 t3 x y : Int) : bitsum t0 t1 t2 t3 b.toNat (x % p) (y % p) = bitsum t0 t1 t2 t3 b.toNat (low x : Nat) (low y : Nat) := by
  obtain ⟨hp, _, _⟩ := sz_pow h
  refine bitsum_congr _ _ _ _ _ _ _ _ _ ?_ ?_
  · rw [← hp, low_mod h, Int.emod_emod_of_dvd _ (Int.dvd_refl p)]
  · rw [← hp, low_mod h, Int.emod_emod_of_dvd _ (Int.dvd_refl p)]
theorem nat_mod_sz {b p : Int} (h : Sz b p) (z : Nat) : ((z % 2 ^ b.toNat : Nat) : Int) = (z : Int) % p := by
  obtain ⟨hp, _, _⟩ := sz_pow h
  rw [hp, Int.natCast_emod, Int.natCast_pow]; rfl
theorem and_mod {b p : Int} (h : Sz b p) (x y : Int) : Go.bits .and .i64 x y % p = bitsum 0 0 0 1 b.toNat (x % p) (y % p) := by
  rw [bits_low_and, wrap_mod h, bitsum_low h, bitsum_and, nat_mod_sz h]
theorem or_mod {b p : Int} (h : Sz b p) (x y : Int) : Go.bits .or .i64 x y % p = bitsum 0 1 1 1 b.toNat (x % p) (y % p) := by
  rw [bits_low_or, wrap_mod h, bitsum_low h, bitsum_or, nat_mod_sz h]
theorem xor_mod {b p : Int} (h : Sz b p) (x y : Int) : Go.bits .xor .i64 x y % p = bitsum 0 1 1 0 b.toNat (x % p) (y % p) := by
  rw [bits_low_xor, wrap_mod h, bitsum_low h, bitsum_xor, nat_mod_sz h]
theorem bits_not (z : Int) : Go.bits .xor .i64 (-1) z = wrap64 (-z - 1) := by
  have e : Go.bits .xor .i64 (-1) z = wrap64 ((BitVec.ofInt 64 (-1) ^^^ BitVec.ofInt 64 z).toNat : Int) := by
    unfold Go.bits; rw [i64_w]; rfl
  rw [e, show BitVec.ofInt 64 (-1) = BitVec.allOnes 64 from by decide, BitVec.allOnes_xor, BitVec.toNat_not, BitVec.toNat_ofInt]
  unfold wrap64
  have h1 := Int.emod_nonneg z (show (18446744073709551616 : Int) ≠ 0 by omega)
  have h2 := Int.emod_lt_of_pos z (show (0 : Int) < 18446744073709551616 by omega)
  rw [show ((2 ^ 64 : Nat) : Int) = 18446744073709551616 from rfl]
  omega
theorem eqv_mod {b p : Int} (h : Sz b p) (x y : Int) : nm p (Go.bits .xor .i64 (-1) (Go.bits .xor .i64 x y)) = nm p (bitsum 1 0 0 1 b.toNat (x % p) (y % p)) := by
  rw [bits_not, nm_wrap h]
  have e1 := xor_mod h x y
  have e2 := bitsum_eqv b.toNat (x % p) (y % p)
  obtain ⟨hp, _, _⟩ := sz_pow h
  rw [← hp] at e2
  refine nm_congr h ?_
  generalize bitsum 1 0 0 1 b.toNat (x % p) (y % p) = s at *
  generalize bitsum 0 1 1 0 b.toNat (x % p) (y % p) = t at *
  generalize Go.bits .xor .i64 x y = z at *
  rcases h with ⟨_, rfl⟩ | ⟨_, rfl⟩ | ⟨_, rfl⟩ <;> omega
end Go.Proofs.Ythllfmbdapdogaa.PWord
