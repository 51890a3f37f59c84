/- Plain laws: bytes of words. -/
import Derived.Test.YthllfmbdapdogaaZPWordVals
import Derived.Test.YthllfmbdapdogaaZPPWordx0
import Derived.Test.YthllfmbdapdogaaZPPWordx3
import Derived.Test.YthllfmbdapdogaaZPPWordx5
import Derived.Test.YthllfmbdapdogaaZPPWordx8
import Derived.Test.YthllfmbdapdogaaZPPWordx14
import Derived.Test.YthllfmbdapdogaaZPPWordx15
import Derived.Test.YthllfmbdapdogaaZPPWordx16
namespace Go.Proofs.Ythllfmbdapdogaa.PWord
open Go.RowKit Go.Proofs.YthllfmbdapdogaaW.PrintWords Go.Proofs.YthllfmbdapdogaaW.PrintLast Go.Proofs.YthllfmbdapdogaaW.PrintMore
set_option linter.unusedVariables false
set_option linter.unusedSimpArgs false

/-- A length of words, its power, and how many bytes a word has. -/
def Sn (b p : Int) (n : Nat) : Prop := (b = 16 ∧ p = 65536 ∧ n = 2) ∨ (b = 24 ∧ p = 16777216 ∧ n = 3) ∨ (b = 32 ∧ p = 4294967296 ∧ n = 4)
theorem Sn.sz {b p : Int} {n : Nat} (h : Sn b p n) : Sz b p := by
  rcases h with ⟨h1, h2, _⟩ | ⟨h1, h2, _⟩ | ⟨h1, h2, _⟩
  · exact .inl ⟨h1, h2⟩
  · exact .inr (.inl ⟨h1, h2⟩)
  · exact .inr (.inr ⟨h1, h2⟩)
theorem Sz.sn {b p : Int} (h : Sz b p) : ∃ n, Sn b p n := by
  rcases h with ⟨h1, h2⟩ | ⟨h1, h2⟩ | ⟨h1, h2⟩
  · exact ⟨2, .inl ⟨h1, h2, rfl⟩⟩
  · exact ⟨3, .inr (.inl ⟨h1, h2, rfl⟩)⟩
  · exact ⟨4, .inr (.inr ⟨h1, h2, rfl⟩)⟩
theorem Sn.n {b p : Int} {n : Nat} (h : Sn b p n) : 2 ≤ n ∧ n ≤ 4 ∧ b = 8 * n ∧ wrap64 (Int.tdiv b 8) = n := by
  rcases h with ⟨rfl, rfl, rfl⟩ | ⟨rfl, rfl, rfl⟩ | ⟨rfl, rfl, rfl⟩
  · exact ⟨by omega, by omega, rfl, by decide +kernel⟩
  · exact ⟨by omega, by omega, rfl, by decide +kernel⟩
  · exact ⟨by omega, by omega, rfl, by decide +kernel⟩
/-- Which byte of a word, counted from the lowest one, the byte i is. -/
def pos (n : Nat) (big : Bool) (i : Nat) : Nat := if big = true then n - 1 - i else i
theorem pos_lt {n i : Nat} (big : Bool) (h : i < n) : pos n big i < n := by unfold pos; split <;> omega
theorem shift_val {b p : Int} {n : Nat} (h : Sn b p n) (big : Bool) (i : Nat) : word_shift.f (i : Int) b big = some ((8 * pos n big (i % n) : Nat) : Int) := by
  obtain ⟨h1, h2, h3, h4⟩ := h.n
  have hm := Nat.mod_lt i (show 0 < n by omega)
  have e : Int.tmod (i : Int) (n : Int) = ((i % n : Nat) : Int) := by rw [Int.tmod_eq_emod_of_nonneg (by omega), Int.natCast_emod]
  unfold word_shift.f pos
  rw [h4, e]
  cases big
  · rw [if_neg (by decide), if_neg (by omega), if_neg (by decide)]; congr 1; unfold wrap64; omega
  · rw [if_pos rfl, if_neg (by omega), if_pos rfl]; congr 1; unfold wrap64; omega
theorem and_255 (z : Int) : Go.bits .and .i64 z 255 = z % 256 := by
  rw [bits_low_and, show low 255 = 2 ^ 8 - 1 from by decide +kernel, Nat.and_two_pow_sub_one_eq_mod, Int.natCast_emod, low_cast]
  unfold wrap64
  omega
theorem byte_val {b p : Int} {n : Nat} (h : Sn b p n) (big : Bool) (w : Int) (i : Nat) : word_Byte.f w (i : Int) b big = some (w / 2 ^ (8 * pos n big (i % n)) % 256) := by
  obtain ⟨h1, h2, h3, h4⟩ := h.n
  have hm := Nat.mod_lt i (show 0 < n by omega)
  have hq := pos_lt big hm
  unfold word_Byte.f
  rw [shift_val h]
  simp only [Option.bind_some]
  rw [if_pos (by omega), and_255]
  unfold shr
  rw [Int.toNat_natCast, Nat.min_eq_left (show 8 * pos n big (i % n) ≤ IntKind.i64.bits from by show _ ≤ 64; omega)]
theorem replace_nat (X s c : Nat) (hX : X < 2 ^ 64) (hs : s + 8 ≤ 32) (hc : c < 256) :
    ((X &&& (2 ^ 64 - (255 * 2 ^ s + 1))) ||| (c * 2 ^ s)) = 2 ^ (s + 8) * (X / 2 ^ (s + 8)) + (2 ^ s * c + X % 2 ^ s) := by
  have hsp : 0 < 2 ^ s := Nat.pow_pos (by omega)
  have hlo : X % 2 ^ s < 2 ^ s := Nat.mod_lt _ hsp
  have h8 : 2 ^ (s + 8) = 2 ^ s * 256 := by rw [Nat.pow_add]
  have hcl : 2 ^ s * c + X % 2 ^ s < 2 ^ (s + 8) := by
    have : 2 ^ s * c ≤ 2 ^ s * 255 := Nat.mul_le_mul_left _ (by omega)
    rw [h8]; omega
  have hle : 2 ^ (s + 8) ≤ 2 ^ 32 := Nat.pow_le_pow_right (by omega) hs
  have h255 : 255 * 2 ^ s < 2 ^ 64 := by omega
  refine Nat.eq_of_testBit_eq fun j => ?_
  rw [Nat.testBit_or, Nat.testBit_and, Nat.testBit_two_pow_sub_succ h255, show (255 : Nat) = 2 ^ 8 - 1 from rfl, Nat.testBit_mul_two_pow, Nat.testBit_two_pow_sub_one, Nat.testBit_mul_two_pow, Nat.testBit_two_pow_mul_add _ hcl, Nat.testBit_div_two_pow]
  by_cases c1 : j < s + 8
  · rw [if_pos c1, Nat.testBit_two_pow_mul_add _ hlo]
    by_cases c2 : j < s
    · rw [if_pos c2, Nat.testBit_mod_two_pow]
      have : ¬ s ≤ j := by omega
      simp [c2, this, show j < 64 by omega]
    · rw [if_neg c2]
      have : s ≤ j := by omega
      simp [this, show j - s < 8 by omega]
  · rw [if_neg c1]
    have e : j - (s + 8) + (s + 8) = j := by omega
    rw [e]
    have hcb : c.testBit (j - s) = false := Nat.testBit_lt_two_pow (Nat.lt_of_lt_of_le (show c < 2 ^ 8 from hc) (Nat.pow_le_pow_right (by omega) (by omega)))
    by_cases c3 : j < 64
    · simp [c3, hcb, show ¬ j - s < 8 by omega]
    · have hXb : X.testBit j = false := Nat.testBit_lt_two_pow (Nat.lt_of_lt_of_le hX (Nat.pow_le_pow_right (by omega) (by omega)))
      simp [c3, hcb, hXb]
theorem bits_low_andNot (x y : Int) : Go.bits .andNot .i64 x y = wrap64 ((low x &&& (2 ^ 64 - (low y + 1)) : Nat) : Int) := by
  have e : Go.bits .andNot .i64 x y = wrap64 ((BitVec.ofInt 64 x &&& ~~~ BitVec.ofInt 64 y).toNat : Int) := by
    unfold Go.bits; rw [i64_w]; rfl
  rw [e, BitVec.toNat_and, BitVec.toNat_not, BitVec.toNat_ofInt, BitVec.toNat_ofInt, show 2 ^ 64 - 1 - ((y % ((2 ^ 64 : Nat) : Int)).toNat) = 2 ^ 64 - (low y + 1) from by unfold low; rw [show ((2 ^ 64 : Nat) : Int) = 18446744073709551616 from rfl]; omega]
  rfl
theorem low_wrap (z : Nat) (hz : z < 2 ^ 64) : low (wrap64 (z : Int)) = z := by unfold low wrap64; omega
/-- A word whose byte q, from the lowest one on, is another one. -/
def put (p : Int) (q : Nat) (v w : Int) : Int := nm p (w + (v % 256 - w / 2 ^ (8 * q) % 256) * 2 ^ (8 * q))
theorem with_val {b p : Int} {n : Nat} (h : Sn b p n) (big : Bool) (w v : Int) (i : Nat) : word_With.f w (i : Int) v b big = some (put p (pos n big (i % n)) v w) := by
  obtain ⟨h1, h2, h3, h4⟩ := h.n
  have hm := Nat.mod_lt i (show 0 < n by omega)
  have hq := pos_lt big hm
  unfold word_With.f
  rw [shift_val h]
  simp only [Option.bind_some]
  rw [if_pos (by omega), norm_word h.sz]
  simp only [Option.bind_some]
  congr 1
  unfold put
  generalize pos n big (i % n) = q at *
  have hq4 : q ≤ 3 := by omega
  have key : ∀ s : Nat, s + 8 ≤ 32 → nm p (Go.bits .or .i64 (Go.bits .andNot .i64 w (shl .i64 255 (s : Int))) (shl .i64 (Go.bits .and .i64 v 255) (s : Int))) = nm p (w + (v % 256 - w / 2 ^ s % 256) * 2 ^ s) := by
    intro s hs
    have hsp : 0 < 2 ^ s := Nat.pow_pos (by omega)
    have hle : 2 ^ s ≤ 2 ^ 24 := Nat.pow_le_pow_right (by omega) (by omega)
    have h3' : ((2 ^ s : Nat) : Int) = (2 : Int) ^ s := Int.natCast_pow 2 _
    have sh : ∀ c : Nat, c < 256 → shl .i64 (c : Int) (s : Int) = ((c * 2 ^ s : Nat) : Int) := by
      intro c hc
      unfold shl
      rw [Int.toNat_natCast, Nat.min_eq_left (show s ≤ IntKind.i64.bits from by show _ ≤ 64; omega), i64_w, ← h3', ← Int.natCast_mul]
      have : c * 2 ^ s ≤ 255 * 2 ^ 24 := Nat.mul_le_mul (by omega) hle
      unfold wrap64; omega
    obtain ⟨c, hc⟩ : ∃ c : Nat, v % 256 = c := ⟨(v % 256).toNat, by omega⟩
    have hcl : c < 256 := by omega
    have e255 := sh 255 (by omega)
    have l255 : low ((255 * 2 ^ s : Nat) : Int) = 255 * 2 ^ s := by
      have : 255 * 2 ^ s ≤ 255 * 2 ^ 24 := Nat.mul_le_mul (by omega) hle
      unfold low; omega
    have lc : low ((c * 2 ^ s : Nat) : Int) = c * 2 ^ s := by
      have : c * 2 ^ s ≤ 255 * 2 ^ 24 := Nat.mul_le_mul (by omega) hle
      unfold low; omega
    rw [and_255, hc, sh c hcl, show (255 : Int) = ((255 : Nat) : Int) from rfl, e255, bits_low_andNot, l255, bits_low_or, lc]
    have hX : low w < 2 ^ 64 := by unfold low; omega
    rw [low_wrap _ (Nat.lt_of_le_of_lt Nat.and_le_left hX), replace_nat (low w) s c hX hs hcl, nm_wrap h.sz]
    have lw := low_cast w
    refine nm_congr h.sz ?_
    generalize low w = X at *
    have d1 := Nat.div_add_mod X (2 ^ (s + 8))
    have h8 : 2 ^ (s + 8) = 2 ^ s * 256 := by rw [Nat.pow_add]
    have hsp32 : p ∣ 18446744073709551616 := by
      rcases h with ⟨_, rfl, _⟩ | ⟨_, rfl, _⟩ | ⟨_, rfl, _⟩
      · exact ⟨281474976710656, rfl⟩
      · exact ⟨1099511627776, rfl⟩
      · exact ⟨4294967296, rfl⟩
    have ww : w % p = (X : Int) % p := by rw [lw, Int.emod_emod_of_dvd _ hsp32]
    have wd : w / 2 ^ s % 256 = ((X / 2 ^ s % 256 : Nat) : Int) := by
      rw [Int.natCast_emod, Int.natCast_ediv, h3', lw]
      obtain ⟨k, hk⟩ : ∃ k : Int, w = 18446744073709551616 * k + w % 18446744073709551616 := ⟨w / 18446744073709551616, by omega⟩
      have e64 : (18446744073709551616 : Int) = 2 ^ s * (256 * 2 ^ (56 - s)) := by
        have : (2 : Int) ^ s * (256 * 2 ^ (56 - s)) = 2 ^ (s + 8 + (56 - s)) := by rw [Int.pow_add, Int.pow_add, Int.mul_assoc]; rfl
        rw [this, show s + 8 + (56 - s) = 64 from by omega]; rfl
      have hpos : (2 : Int) ^ s ≠ 0 := by have := two_pow_pos s; omega
      generalize w % 18446744073709551616 = r at *
      rw [hk, e64]
      rw [show (2 : Int) ^ s * (256 * 2 ^ (56 - s)) * k + r = r + 2 ^ s * (256 * 2 ^ (56 - s) * k) from by rw [Int.mul_assoc, Int.add_comm]]
      rw [Int.add_mul_ediv_left _ _ hpos, show 256 * (2 : Int) ^ (56 - s) * k = 256 * (2 ^ (56 - s) * k) from by rw [Int.mul_assoc], Int.add_mul_emod_self_left]
      rfl
    rw [wd]
    have dd : X = 2 ^ (s + 8) * (X / 2 ^ (s + 8)) + (2 ^ s * (X / 2 ^ s % 256) + X % 2 ^ s) := by
      have := Nat.mod_add_div X (2 ^ s)
      have h9 : X / 2 ^ (s + 8) = X / 2 ^ s / 256 := by rw [h8, Nat.div_div_eq_div_mul]
      have h10 := Nat.mod_add_div (X / 2 ^ s) 256
      rw [h9, h8]
      generalize X / 2 ^ s / 256 = Y at *
      generalize X / 2 ^ s % 256 = M at *
      have : 2 ^ s * (X / 2 ^ s) = 2 ^ s * (M + 256 * Y) := by rw [h10]
      rw [Nat.mul_add, ← Nat.mul_assoc] at this
      omega
    have goal : ((2 ^ (s + 8) * (X / 2 ^ (s + 8)) + (2 ^ s * c + X % 2 ^ s) : Nat) : Int) = (X : Int) + (c - ((X / 2 ^ s % 256 : Nat) : Int)) * 2 ^ s := by
      rw [Int.sub_mul, ← h3', ← Int.natCast_mul, ← Int.natCast_mul, Nat.mul_comm c, Nat.mul_comm (X / 2 ^ s % 256)]
      generalize 2 ^ s * (X / 2 ^ s % 256) = u at *
      generalize 2 ^ s * c = t at *
      omega
    rw [goal, Int.add_emod, ← ww, ← Int.add_emod]
  exact key (8 * q) (by omega)
end Go.Proofs.Ythllfmbdapdogaa.PWord
