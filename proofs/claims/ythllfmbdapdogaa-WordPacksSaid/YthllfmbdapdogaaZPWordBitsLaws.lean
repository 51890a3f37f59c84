/- Plain laws on words: norming, and bits of whole numbers as sums. -/
import Derived.Test.YthllfmbdapdogaaZPPWordx4
namespace Go.Proofs.Ythllfmbdapdogaa.PWord
open Go.RowKit Go.Proofs.YthllfmbdapdogaaW.PrintWords Go.Proofs.YthllfmbdapdogaaW.PrintLast Go.Proofs.YthllfmbdapdogaaW.PrintMore

theorem sz_pos {b p : Int} (h : Sz b p) : 0 < p := by rcases h with ⟨_, h⟩ | ⟨_, h⟩ | ⟨_, h⟩ <;> omega
theorem nm_mod {b p : Int} (h : Sz b p) (v : Int) : nm p (v % p) = nm p v := by
  unfold nm; rcases h with ⟨_, rfl⟩ | ⟨_, rfl⟩ | ⟨_, rfl⟩ <;> omega
theorem nm_wrap {b p : Int} (h : Sz b p) (v : Int) : nm p (wrap64 v) = nm p v := by
  unfold nm wrap64; rcases h with ⟨_, rfl⟩ | ⟨_, rfl⟩ | ⟨_, rfl⟩ <;> omega
theorem nm_congr {b p : Int} (h : Sz b p) {v w : Int} (e : v % p = w % p) : nm p v = nm p w := by rw [← nm_mod h v, e, nm_mod h w]
/-- word.norm is the same. -/
theorem norm_word {b p : Int} (h : Sz b p) (v : Int) : word_norm.f v b = some (nm p v) := by
  have key : ∀ m : Nat, m ≤ 64 → word_norm.f v (64 - m) = some (wrap64 (v * 2 ^ m) / 2 ^ m) := by
    intro m hm
    have e : wrap64 (64 - (64 - (m : Int))) = m := by unfold wrap64; omega
    unfold word_norm.f
    rw [e, if_pos (by omega)]
    unfold shl shr
    rw [Int.toNat_natCast, Nat.min_eq_left (show m ≤ IntKind.i64.bits from hm), i64_w]
  rcases h with ⟨rfl, rfl⟩ | ⟨rfl, rfl⟩ | ⟨rfl, rfl⟩
  · have h := key 48 (by omega)
    simp only [show (64 : Int) - ((48 : Nat) : Int) = 16 from rfl] at h
    rw [h]; congr 1; unfold wrap64 nm; omega
  · have h := key 40 (by omega)
    simp only [show (64 : Int) - ((40 : Nat) : Int) = 24 from rfl] at h
    rw [h]; congr 1; unfold wrap64 nm; omega
  · have h := key 32 (by omega)
    simp only [show (64 : Int) - ((32 : Nat) : Int) = 32 from rfl] at h
    rw [h]; congr 1; unfold wrap64 nm; omega

/-! Sums of bits. -/
theorem two_pow_pos (n : Nat) : (0 : Int) < 2 ^ n := Int.pow_pos (by omega)
/-- The low 64 bits of a number. -/
def low (x : Int) : Nat := (x % 18446744073709551616).toNat
theorem low_cast (x : Int) : ((low x : Nat) : Int) = x % 18446744073709551616 := by unfold low; omega
theorem bits_low_and (x y : Int) : Go.bits .and .i64 x y = wrap64 ((low x &&& low y : Nat) : Int) := by
  have e : Go.bits .and .i64 x y = wrap64 ((BitVec.ofInt 64 x &&& BitVec.ofInt 64 y).toNat : Int) := by
    unfold Go.bits; rw [i64_w]; rfl
  rw [e, BitVec.toNat_and, BitVec.toNat_ofInt, BitVec.toNat_ofInt]; rfl
theorem bits_low_or (x y : Int) : Go.bits .or .i64 x y = wrap64 ((low x ||| low y : Nat) : Int) := by
  have e : Go.bits .or .i64 x y = wrap64 ((BitVec.ofInt 64 x ||| BitVec.ofInt 64 y).toNat : Int) := by
    unfold Go.bits; rw [i64_w]; rfl
  rw [e, BitVec.toNat_or, BitVec.toNat_ofInt, BitVec.toNat_ofInt]; rfl
end Go.Proofs.Ythllfmbdapdogaa.PWord
