/- Bits of words obey the laws of sets; shifting left is multiplying by the power of 2, and shifting back and forth clears bits alone. No condition on the input. -/
import Derived.Test.YthllfmbdapdogaaWordEx
import Derived.Test.YthllfmbdapdogaaPWordx10
namespace Go.Proofs.Ythllfmbdapdogaa.Pure
open Go.RowKit Go.Proofs.Ythllfmbdapdogaa.PWord Go.Proofs.YthllfmbdapdogaaW.PrintWords Go.Proofs.YthllfmbdapdogaaW.PrintLast
set_option linter.unusedVariables false
set_option linter.unusedSimpArgs false


theorem of_val {b p : Int} (h : Sz b p) (op x y : Int) (h1 : 1 ≤ op) (h2 : op ≤ 19) : bluebelllaw01_func2_of.f b op x y = (ap p b op (nm p x) (nm p y)).map (·.1) := by
  unfold bluebelllaw01_func2_of.f
  rw [apply_val h, if_neg (by omega), if_neg (by omega)]
  cases ap p b op (nm p x) (nm p y) <;> rfl
theorem of_add {b p : Int} (h : Sz b p) (x y : Int) : bluebelllaw01_func2_of.f b 4 (nm p x) (nm p y) = some (nm p (x + y)) := by
  rw [of_val h _ _ _ (by omega) (by omega), nm_nm h, nm_nm h]
  simp only [ap, Int.reduceEq, if_false, if_true, reduceIte, Option.map_some]
  congr 1
  exact nm_congr h (by rw [Int.add_emod, nm_emod h, nm_emod h, ← Int.add_emod])
theorem of_sub {b p : Int} (h : Sz b p) (x y : Int) : bluebelllaw01_func2_of.f b 5 (nm p x) (nm p y) = some (nm p (x - y)) := by
  rw [of_val h _ _ _ (by omega) (by omega), nm_nm h, nm_nm h]
  simp only [ap, Int.reduceEq, if_false, if_true, reduceIte, Option.map_some]
  congr 1
  exact nm_congr h (by rw [Int.sub_emod, nm_emod h, nm_emod h, ← Int.sub_emod])
theorem of_mul {b p : Int} (h : Sz b p) (x y : Int) : bluebelllaw01_func2_of.f b 1 (nm p x) (nm p y) = some (nm p (x * y)) := by
  rw [of_val h _ _ _ (by omega) (by omega), nm_nm h, nm_nm h]
  simp only [ap, Int.reduceEq, if_false, if_true, reduceIte, Option.map_some]
  congr 1
  exact nm_congr h (by rw [Int.mul_emod, nm_emod h, nm_emod h, ← Int.mul_emod])
/-- Numbers below the power, as whole numbers from 0 on. -/
theorem enc_mod {b p : Int} (h : Sz b p) {A : Nat} (hA : (A : Int) < p) : nm p (A : Int) % p = A := by
  rw [nm_emod h]; exact Int.emod_eq_of_lt (by omega) hA
theorem lt_two {b p : Int} (h : Sz b p) {A : Nat} (hA : (A : Int) < p) : A < 2 ^ b.toNat := by
  obtain ⟨hp, _, _⟩ := sz_pow h
  have : ((2 ^ b.toNat : Nat) : Int) = p := by rw [hp, Int.natCast_pow]; rfl
  omega
theorem of_and {b p : Int} (h : Sz b p) {A B : Nat} (hA : (A : Int) < p) (hB : (B : Int) < p) : bluebelllaw01_func2_of.f b 8 (nm p (A : Int)) (nm p (B : Int)) = some (nm p ((A &&& B : Nat) : Int)) := by
  rw [of_val h _ _ _ (by omega) (by omega), nm_nm h, nm_nm h]
  simp only [ap, Int.reduceEq, reduceIte, Option.map_some]
  rw [enc_mod h hA, enc_mod h hB, bitsum_and, Nat.mod_eq_of_lt (Nat.lt_of_le_of_lt Nat.and_le_left (lt_two h hA))]
theorem of_or {b p : Int} (h : Sz b p) {A B : Nat} (hA : (A : Int) < p) (hB : (B : Int) < p) : bluebelllaw01_func2_of.f b 9 (nm p (A : Int)) (nm p (B : Int)) = some (nm p ((A ||| B : Nat) : Int)) := by
  rw [of_val h _ _ _ (by omega) (by omega), nm_nm h, nm_nm h]
  simp only [ap, Int.reduceEq, reduceIte, Option.map_some]
  rw [enc_mod h hA, enc_mod h hB, bitsum_or, Nat.mod_eq_of_lt (Nat.or_lt_two_pow (lt_two h hA) (lt_two h hB))]
theorem of_xor {b p : Int} (h : Sz b p) {A B : Nat} (hA : (A : Int) < p) (hB : (B : Int) < p) : bluebelllaw01_func2_of.f b 10 (nm p (A : Int)) (nm p (B : Int)) = some (nm p ((A ^^^ B : Nat) : Int)) := by
  rw [of_val h _ _ _ (by omega) (by omega), nm_nm h, nm_nm h]
  simp only [ap, Int.reduceEq, reduceIte, Option.map_some]
  rw [enc_mod h hA, enc_mod h hB, bitsum_xor, Nat.mod_eq_of_lt (Nat.xor_lt_two_pow (lt_two h hA) (lt_two h hB))]
theorem xor_lt {b p : Int} (h : Sz b p) {A B : Nat} (hA : (A : Int) < p) (hB : (B : Int) < p) : ((A ^^^ B : Nat) : Int) < p := by
  obtain ⟨hp, _, _⟩ := sz_pow h
  have h1 := Nat.xor_lt_two_pow (lt_two h hA) (lt_two h hB)
  have : ((2 ^ b.toNat : Nat) : Int) = p := by rw [hp, Int.natCast_pow]; rfl
  omega
theorem or_lt {b p : Int} (h : Sz b p) {A B : Nat} (hA : (A : Int) < p) (hB : (B : Int) < p) : ((A ||| B : Nat) : Int) < p := by
  obtain ⟨hp, _, _⟩ := sz_pow h
  have h1 := Nat.or_lt_two_pow (lt_two h hA) (lt_two h hB)
  have : ((2 ^ b.toNat : Nat) : Int) = p := by rw [hp, Int.natCast_pow]; rfl
  omega
theorem of_not {b p : Int} (h : Sz b p) {A : Nat} (hA : (A : Int) < p) (y : Int) : bluebelllaw01_func2_of.f b 19 (nm p (A : Int)) y = some (nm p ((2 ^ b.toNat - (A + 1) : Nat) : Int)) := by
  rw [of_val h _ _ _ (by omega) (by omega), nm_nm h]
  simp only [ap, Int.reduceEq, reduceIte, Option.map_some]
  congr 1
  obtain ⟨hp, _, _⟩ := sz_pow h
  have h1 := lt_two h hA
  have h2 : ((2 ^ b.toNat : Nat) : Int) = p := by rw [hp, Int.natCast_pow]; rfl
  have h3 := enc_mod h hA
  refine nm_congr h ?_
  generalize nm p (A : Int) = z at *
  have e : ((2 ^ b.toNat - (A + 1) : Nat) : Int) = p - A - 1 := by omega
  rw [e]
  rcases h with ⟨_, rfl⟩ | ⟨_, rfl⟩ | ⟨_, rfl⟩ <;> omega
theorem not_lt {b p : Int} (h : Sz b p) (A : Nat) : ((2 ^ b.toNat - (A + 1) : Nat) : Int) < p := by
  obtain ⟨hp, _, _⟩ := sz_pow h
  have h2 : ((2 ^ b.toNat : Nat) : Int) = p := by rw [hp, Int.natCast_pow]; rfl
  have h3 := sz_pos h
  omega
theorem of_eqv {b p : Int} (h : Sz b p) {A B : Nat} (hA : (A : Int) < p) (hB : (B : Int) < p) : bluebelllaw01_func2_of.f b 11 (nm p (A : Int)) (nm p (B : Int)) = some (nm p ((2 ^ b.toNat - ((A ^^^ B) + 1) : Nat) : Int)) := by
  rw [of_val h _ _ _ (by omega) (by omega), nm_nm h, nm_nm h]
  simp only [ap, Int.reduceEq, reduceIte, Option.map_some]
  rw [enc_mod h hA, enc_mod h hB]
  have h1 := bitsum_eqv b.toNat (A : Int) (B : Int)
  have h4 := Nat.xor_lt_two_pow (lt_two h hA) (lt_two h hB)
  rw [bitsum_xor, Nat.mod_eq_of_lt h4] at h1
  have h3 : ((2 ^ b.toNat : Nat) : Int) = (2 : Int) ^ b.toNat := Int.natCast_pow 2 _
  congr 2
  omega
theorem de_morgan (n A B : Nat) (hA : A < 2 ^ n) (hB : B < 2 ^ n) : A &&& B = 2 ^ n - (((2 ^ n - (A + 1)) ||| (2 ^ n - (B + 1))) + 1) := by
  have ho : ((2 ^ n - (A + 1)) ||| (2 ^ n - (B + 1))) < 2 ^ n := Nat.or_lt_two_pow (by omega) (by omega)
  refine Nat.eq_of_testBit_eq fun i => ?_
  rw [Nat.testBit_two_pow_sub_succ ho, Nat.testBit_or, Nat.testBit_two_pow_sub_succ hA, Nat.testBit_two_pow_sub_succ hB, Nat.testBit_and]
  by_cases c : i < n
  · simp [c]
  · have h1 : A.testBit i = false := Nat.testBit_lt_two_pow (Nat.lt_of_lt_of_le hA (Nat.pow_le_pow_right (by omega) (by omega)))
    simp [c, h1]
theorem clear_low (n k A : Nat) (hA : A < 2 ^ n) (hk : k ≤ n) : A / 2 ^ k * 2 ^ k = A &&& (2 ^ n - ((2 ^ k - 1) + 1)) := by
  have hkp : 0 < 2 ^ k := Nat.pow_pos (by omega)
  have hle : 2 ^ k ≤ 2 ^ n := Nat.pow_le_pow_right (by omega) hk
  refine Nat.eq_of_testBit_eq fun i => ?_
  rw [Nat.testBit_and, Nat.testBit_two_pow_sub_succ (by omega), Nat.testBit_two_pow_sub_one, Nat.testBit_mul_two_pow, Nat.testBit_div_two_pow]
  by_cases c : k ≤ i
  · rw [Nat.sub_add_cancel c]
    by_cases d : i < n
    · simp [c, d]
    · have h1 : A.testBit i = false := Nat.testBit_lt_two_pow (Nat.lt_of_lt_of_le hA (Nat.pow_le_pow_right (by omega) (by omega)))
      simp [c, d, h1]
  · have : i < k := by omega
    simp [c, this]
theorem and_or_sum (A : Nat) : ∀ B : Nat, (A &&& B) + (A ||| B) = A + B := by
  induction A using Nat.strongRecOn with
  | _ A ih =>
    intro B
    by_cases h0 : A = 0
    · subst h0; simp
    · have := ih (A / 2) (by omega) (B / 2)
      rw [← Nat.and_div_two, ← Nat.or_div_two] at this
      have h1 := Nat.and_mod_two_eq_one (a := A) (b := B)
      have h2 := Nat.or_mod_two_eq_one (a := A) (b := B)
      omega
theorem doubling {b p : Int} (h : Sz b p) (n x y : Int) (hn : n < b) : ∀ (d k : Nat) (i : Nat), (i : Int) + d = n → d < k → ∃ q, k - d = q + 1 ∧ bluebelllaw01_WordBits.l0 k n x y (nm p (2 ^ i)) i b = bluebelllaw01_WordBits.l0 (q + 1) n x y (nm p (2 ^ n.toNat)) n b := by
  intro d
  have hs := sz_le h
  induction d with
  | zero =>
    intro k i hi hk
    refine ⟨k - 1, by omega, ?_⟩
    rw [show k - 1 + 1 = k from by omega, show n.toNat = i from by omega, show n = (i : Int) from by omega]
  | succ d ih =>
    intro k i hi hk
    obtain ⟨k, rfl⟩ : ∃ m, k = m + 1 := ⟨k - 1, by omega⟩
    obtain ⟨q, hq, e⟩ := ih k (i + 1) (by omega) (by omega)
    refine ⟨q, by omega, ?_⟩
    rw [← e]
    conv => lhs; unfold bluebelllaw01_WordBits.l0
    rw [if_pos (by omega), of_add h]
    simp only [Option.bind_some]
    rw [show (2 : Int) ^ i + 2 ^ i = 2 ^ (i + 1) from by rw [Int.pow_succ]; omega, show wrap64 ((i : Int) + 1) = ((i + 1 : Nat) : Int) from by unfold wrap64; omega]
set_option maxRecDepth 20000 in
theorem WordBits : bluebelllaw01_WordBits.Pure := by
  intro a c n b _ _ _ _
  refine ⟨200, ?_⟩
  unfold bluebelllaw01_WordBits.f
  have early : bluebelllaw01_WordBits.j0 200 a c n b true = some true := by simp [bluebelllaw01_WordBits.j0]
  rcases sz_or b with ⟨p, h⟩ | ⟨h1, h2⟩
  rotate_left
  · rw [h2]; simp [early]
  rw [bits_sz h]
  simp only [Option.bind_some, if_true]
  by_cases n0 : n < 0
  · rw [if_pos n0, early]
  rw [if_neg n0]
  by_cases n1 : n ≥ b
  · rw [decide_eq_true n1, early]
  rw [decide_eq_false n1]
  have hs := sz_le h
  obtain ⟨hp, hb32, hbn⟩ := sz_pow h
  have hp2 : ((2 ^ b.toNat : Nat) : Int) = p := by rw [hp, Int.natCast_pow]; rfl
  have hpos := sz_pos h
  have a0 := Int.emod_nonneg a (show p ≠ 0 by omega)
  have a1 := Int.emod_lt_of_pos a hpos
  have c0 := Int.emod_nonneg c (show p ≠ 0 by omega)
  have c1 := Int.emod_lt_of_pos c hpos
  obtain ⟨A, hA⟩ : ∃ A : Nat, a % p = A := ⟨(a % p).toNat, by omega⟩
  obtain ⟨B, hB⟩ : ∃ B : Nat, c % p = B := ⟨(c % p).toNat, by omega⟩
  have eA : nm p a = nm p (A : Int) := by rw [← nm_mod h a, hA]
  have eB : nm p c = nm p (B : Int) := by rw [← nm_mod h c, hB]
  have lA : (A : Int) < p := by omega
  have lB : (B : Int) < p := by omega
  have lA2 := lt_two h lA
  have lB2 := lt_two h lB
  simp only [bluebelllaw01_WordBits.j0, Bool.false_eq_true, if_false]
  unfold bluebellref01_Word.f
  simp only [norm_ge h (show 40 ≤ 199 by omega), Option.bind_some, eA, eB]
  simp only [of_not h lA, of_and h lA lB, of_not h lB, Option.bind_some]
  simp only [of_or h (not_lt h A) (not_lt h B), Option.bind_some]
  simp only [of_not h (or_lt h (not_lt h A) (not_lt h B)), Option.bind_some]
  rw [if_pos (by rw [← de_morgan _ _ _ lA2 lB2])]
  simp only [of_eqv h lA lB, of_xor h lA lB, Option.bind_some]
  simp only [of_not h (xor_lt h lA lB), Option.bind_some, if_true]
  simp only [of_xor h (xor_lt h lA lB) lB, Option.bind_some]
  rw [show (A ^^^ B) ^^^ B = A from by rw [Nat.xor_assoc, Nat.xor_self, Nat.xor_zero]]
  simp only [bne_self_eq_false]
  simp only [bluebelllaw01_WordBits.j1, Bool.false_eq_true, if_false]
  obtain ⟨q, hq, e⟩ := doubling h n (nm p (A : Int)) (nm p (B : Int)) (by omega) n.toNat 198 0 (by omega) (by omega)
  have one : nm p ((2 : Int) ^ 0) = 1 := by rcases h with ⟨_, rfl⟩ | ⟨_, rfl⟩ | ⟨_, rfl⟩ <;> decide
  rw [one] at e
  rw [show (0 : Int) = ((0 : Nat) : Int) from rfl, e]
  unfold bluebelllaw01_WordBits.l0
  rw [if_neg (by omega)]
  have nn : nm p n = n := nm_S h (by unfold S; omega)
  have y1 : ¬ b ≤ n := by omega
  have shl_v : ∀ z : Int, bluebelllaw01_func2_of.f b 6 (nm p z) n = some (nm p (z * 2 ^ n.toNat)) := by
    intro z
    rw [of_val h _ _ _ (by omega) (by omega), nm_nm h]
    simp only [ap, Int.reduceEq, reduceIte, nn, if_neg n0, if_neg y1, Option.map_some]
    congr 1
    exact nm_congr h (by rw [Int.mul_emod, nm_emod h, ← Int.mul_emod])
  have shr_v : ∀ Z : Nat, (Z : Int) < p → bluebelllaw01_func2_of.f b 7 (nm p (Z : Int)) n = some (nm p ((Z / 2 ^ n.toNat : Nat) : Int)) := by
    intro Z hZ
    rw [of_val h _ _ _ (by omega) (by omega), nm_nm h]
    simp only [ap, Int.reduceEq, reduceIte, nn, if_neg n0, if_neg y1, Option.map_some]
    rw [enc_mod h hZ, Int.natCast_ediv, Int.natCast_pow]
    rfl
  have e1 : nm p 1 = 1 := nm_S h (by unfold S; omega)
  have hsub : bluebelllaw01_func2_of.f b 5 (nm p (2 ^ n.toNat)) 1 = some (nm p ((2 ^ n.toNat - 1 : Nat) : Int)) := by
    have := of_sub h (2 ^ n.toNat) 1
    rw [e1] at this
    rw [this]
    congr 2
    have h3 : ((2 ^ n.toNat : Nat) : Int) = (2 : Int) ^ n.toNat := Int.natCast_pow 2 _
    have h4 : 0 < 2 ^ n.toNat := Nat.pow_pos (by omega)
    omega
  have hlt : ((2 ^ n.toNat - 1 : Nat) : Int) < p := by
    have h4 : 2 ^ n.toNat ≤ 2 ^ b.toNat := Nat.pow_le_pow_right (by omega) (by omega)
    omega
  simp only [shl_v, hsub, of_mul h, Option.bind_some, if_true]
  simp only [shr_v A lA, Option.bind_some]
  rw [shl_v]
  simp only [Option.bind_some]
  rw [of_not h hlt]
  simp only [Option.bind_some]
  rw [of_and h lA (not_lt h _)]
  simp only [Option.bind_some]
  rw [← clear_low b.toNat n.toNat A lA2 (by omega)]
  rw [if_pos (by congr 1)]
  rw [of_and h lA lB]
  simp only [Option.bind_some]
  rw [of_or h lA lB]
  simp only [Option.bind_some]
  rw [of_add h, of_add h]
  simp only [Option.bind_some]
  rw [if_pos (by
    congr 1
    have := and_or_sum A B
    omega)]
  rw [awake_ge (by omega)]
  rfl

end Go.Proofs.Ythllfmbdapdogaa.Pure
