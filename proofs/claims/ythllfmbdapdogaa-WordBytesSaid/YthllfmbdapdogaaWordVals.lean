/- Plain laws: what word.Apply and the reference's Apply give, by one formula. -/
import Derived.Test.YthllfmbdapdogaaWordBitsLaws
import Derived.Test.YthllfmbdapdogaaPWordx5
namespace Go.Proofs.Ythllfmbdapdogaa.PWord
open Go.RowKit Go.Proofs.YthllfmbdapdogaaW.PrintWords Go.Proofs.YthllfmbdapdogaaW.PrintLast Go.Proofs.YthllfmbdapdogaaW.PrintMore
set_option linter.unusedVariables false

theorem power_ge {b p : Int} (h : Sz b p) {k : Nat} (hk : 40 ≤ k) : bluebellref01_power.f k b = some p := at_rounds (fun k => bluebellref01_power.mono b k) hk (power_sz h)
theorem norm_ge {b p : Int} (h : Sz b p) {k : Nat} (hk : 40 ≤ k) (v : Int) : bluebellref01_norm.f k v b = some (nm p v) := at_rounds (fun k => bluebellref01_norm.mono v b k) hk (norm_ref h v)
theorem unsigned_ge {b p : Int} (h : Sz b p) {k : Nat} (hk : 40 ≤ k) (v : Int) : bluebellref01_unsigned.f k v b = some (v % p) := at_rounds (fun k => bluebellref01_unsigned.mono v b k) hk (unsigned_ref h v)

theorem emod_mul_left_ {a n p : Int} : a % p * n % p = a * n % p := by rw [Int.mul_emod, Int.emod_emod_of_dvd _ (Int.dvd_refl p), ← Int.mul_emod]
theorem low_of_nonneg {x : Int} (h : 0 ≤ x) (h2 : x < 18446744073709551616) : ((low x : Nat) : Int) = x := by rw [low_cast]; omega
/-- What comes of two words by And is a word. -/
theorem and_range {b p : Int} (h : Sz b p) {x y : Int} (hx : -(p / 2) ≤ x ∧ x < p / 2) (hy : -(p / 2) ≤ y ∧ y < p / 2) : -(p / 2) ≤ Go.bits .and .i64 x y ∧ Go.bits .and .i64 x y < p / 2 := by
  rw [bits_low_and]
  have lx := low_cast x
  have ly := low_cast y
  have l1 : low x &&& low y ≤ low x := Nat.and_le_left
  have l2 : low x &&& low y ≤ low y := Nat.and_le_right
  have hp2 : p / 2 ≤ 2147483648 ∧ 0 < p / 2 := by rcases h with ⟨_, rfl⟩ | ⟨_, rfl⟩ | ⟨_, rfl⟩ <;> decide
  by_cases c : 0 ≤ x ∨ 0 ≤ y
  · unfold wrap64
    omega
  · have key : ∀ m : Nat, m ≤ 31 → p / 2 = 2 ^ m → 18446744073709551616 - p / 2 ≤ ((low x &&& low y : Nat) : Int) := by
      intro m hm e
      have d := Nat.and_div_two_pow (a := low x) (b := low y) (n := m)
      have hq : (2 : Int) ^ m = ((2 ^ m : Nat) : Int) := (Int.natCast_pow 2 m).symm
      have hd : 2 ^ 64 / 2 ^ m = 2 ^ (64 - m) := Nat.pow_div (by omega) (by omega)
      have hmul : 2 ^ (64 - m) * 2 ^ m = 2 ^ 64 := by rw [← Nat.pow_add]; congr 1; omega
      have hpos : 0 < 2 ^ m := Nat.pow_pos (by omega)
      have fx : low x / 2 ^ m = 2 ^ (64 - m) - 1 := by
        refine Nat.div_eq_of_lt_le ?_ ?_
        · rw [Nat.sub_mul, hmul, Nat.one_mul]; omega
        · rw [Nat.add_mul, Nat.sub_mul, hmul, Nat.one_mul]; omega
      have fy : low y / 2 ^ m = 2 ^ (64 - m) - 1 := by
        refine Nat.div_eq_of_lt_le ?_ ?_
        · rw [Nat.sub_mul, hmul, Nat.one_mul]; omega
        · rw [Nat.add_mul, Nat.sub_mul, hmul, Nat.one_mul]; omega
      rw [fx, fy, Nat.and_self] at d
      have := Nat.div_mul_le_self (low x &&& low y) (2 ^ m)
      rw [d, Nat.sub_mul, hmul, Nat.one_mul] at this
      omega
    have k2 : 18446744073709551616 - p / 2 ≤ ((low x &&& low y : Nat) : Int) := by
      rcases h with ⟨_, rfl⟩ | ⟨_, rfl⟩ | ⟨_, rfl⟩
      · exact key 15 (by omega) rfl
      · exact key 23 (by omega) rfl
      · exact key 31 (by omega) rfl
    unfold wrap64
    omega
theorem and_nm {b p : Int} (h : Sz b p) (x y : Int) : Go.bits .and .i64 (nm p x) (nm p y) = nm p (bitsum 0 0 0 1 b.toNat (nm p x % p) (nm p y % p)) := by
  have r := and_range h (nm_range h x) (nm_range h y)
  rw [← nm_self h r.1 r.2]
  refine nm_congr h ?_
  rw [← and_mod h, Int.emod_emod_of_dvd _ (Int.dvd_refl p)]
theorem unsigned_word {b p : Int} (h : Sz b p) (v : Int) : word_unsigned.f v b = some (v % p) := by
  have key : ∀ m : Nat, m ≤ 32 → Go.bits .and .i64 v (wrap64 (shl .i64 1 (m : Int) - 1)) = v % 2 ^ m := by
    intro m hm
    have e : wrap64 (shl .i64 1 (m : Int) - 1) = ((2 ^ m - 1 : Nat) : Int) := by
      unfold shl
      rw [Int.toNat_natCast, Nat.min_eq_left (show m ≤ IntKind.i64.bits from by show m ≤ 64; omega), i64_w, Int.one_mul]
      have h1 := pow_le_32 hm
      have h2 := two_pow_pos m
      have h3 : ((2 ^ m : Nat) : Int) = (2 : Int) ^ m := Int.natCast_pow 2 m
      unfold wrap64
      omega
    rw [e, bits_low_and]
    have h1 := pow_le_32 hm
    have h2 := two_pow_pos m
    have h3 : ((2 ^ m : Nat) : Int) = (2 : Int) ^ m := Int.natCast_pow 2 m
    have hl : low ((2 ^ m - 1 : Nat) : Int) = 2 ^ m - 1 := by unfold low; omega
    rw [hl, Nat.and_two_pow_sub_one_eq_mod, Int.natCast_emod, low_cast, h3]
    have hd : (2 : Int) ^ m ∣ 18446744073709551616 := by
      refine ⟨2 ^ (64 - m), ?_⟩
      rw [← Int.pow_add, show m + (64 - m) = 64 from by omega]; rfl
    rw [Int.emod_emod_of_dvd _ hd]
    have h4 := Int.emod_nonneg v (show (2 : Int) ^ m ≠ 0 by omega)
    have h5 := Int.emod_lt_of_pos v h2
    unfold wrap64
    omega
  unfold word_unsigned.f
  rcases h with ⟨rfl, rfl⟩ | ⟨rfl, rfl⟩ | ⟨rfl, rfl⟩
  · rw [if_pos (by omega)]; congr 1; exact key 16 (by omega)
  · rw [if_pos (by omega)]; congr 1; exact key 24 (by omega)
  · rw [if_pos (by omega)]; congr 1; exact key 32 (by omega)

/-- What an operator gives for two words x, y. -/
def ap (p b op x y : Int) : Option (Int × Int) :=
  if op = 4 then some (nm p (x + y), 0)
  else if op = 5 then some (nm p (x - y), 0)
  else if op = 12 then some (if x = y then -1 else 0, 0)
  else if op = 13 then some (if x = y then 0 else -1, 0)
  else if op = 14 then some (if x < y then -1 else 0, 0)
  else if op = 15 then some (if x ≤ y then -1 else 0, 0)
  else if op = 16 then some (if y < x then -1 else 0, 0)
  else if op = 17 then some (if y ≤ x then -1 else 0, 0)
  else if op = 8 then some (nm p (bitsum 0 0 0 1 b.toNat (x % p) (y % p)), 0)
  else if op = 2 then (if y = 0 then some (0, 10) else some (nm p (x.tdiv y), 0))
  else if op = 3 then (if y = 0 then some (0, 10) else some (nm p (x.tmod y), 0))
  else if op = 1 then some (nm p (x * y), 0)
  else if op = 6 then (if y < 0 then some (0, 0) else if b ≤ y then some (0, 0) else some (nm p (x * 2 ^ y.toNat), 0))
  else if op = 7 then (if y < 0 then some (0, 0) else if b ≤ y then some (0, 0) else some (nm p (x % p / 2 ^ y.toNat), 0))
  else if op = 9 then some (nm p (bitsum 0 1 1 1 b.toNat (x % p) (y % p)), 0)
  else if op = 10 then some (nm p (bitsum 0 1 1 0 b.toNat (x % p) (y % p)), 0)
  else if op = 11 then some (nm p (bitsum 1 0 0 1 b.toNat (x % p) (y % p)), 0)
  else if op = 18 then some (nm p (-x), 0)
  else if op = 19 then some (nm p (-x - 1), 0)
  else none
theorem sz_le {b p : Int} (h : Sz b p) : b ≤ 32 ∧ 16 ≤ b := by rcases h with ⟨rfl, _⟩ | ⟨rfl, _⟩ | ⟨rfl, _⟩ <;> decide
theorem nm_zero {b p : Int} (h : Sz b p) : nm p 0 = 0 := by rcases h with ⟨rfl, rfl⟩ | ⟨rfl, rfl⟩ | ⟨rfl, rfl⟩ <;> decide
theorem nm_neg1 {b p : Int} (h : Sz b p) : nm p (-1) = -1 := by rcases h with ⟨rfl, rfl⟩ | ⟨rfl, rfl⟩ | ⟨rfl, rfl⟩ <;> decide
theorem do_val {b p : Int} (h : Sz b p) (op a c : Int) : word_Do.f op a c b = ap p b op (nm p a) (nm p c) := by
  unfold word_Do.f ap
  have hs := sz_le h
  have ra := nm_small h a
  simp only [norm_word h, unsigned_word h, Option.bind_some, nm_wrap h, nm_zero h]
  have e8 := and_nm h a c
  have e9 : nm p (Go.bits .or .i64 (nm p a) (nm p c)) = nm p (bitsum 0 1 1 1 b.toNat (nm p a % p) (nm p c % p)) := by
    rw [← or_mod h, nm_mod h]
  have e10 : nm p (Go.bits .xor .i64 (nm p a) (nm p c)) = nm p (bitsum 0 1 1 0 b.toNat (nm p a % p) (nm p c % p)) := by
    rw [← xor_mod h, nm_mod h]
  have e11 := eqv_mod h (nm p a) (nm p c)
  have e19 : nm p (Go.bits .xor .i64 (-1) (nm p a)) = nm p (-(nm p a) - 1) := by rw [bits_not, nm_wrap h]
  rw [e8, e9, e10, e11, e19]
  by_cases c6 : op = 6
  · subst c6
    simp only [if_false, if_true, show ¬ ((6 : Int) = 4) by decide, show ¬ ((6 : Int) = 5) by decide, show ¬ ((6 : Int) = 12) by decide, show ¬ ((6 : Int) = 13) by decide, show ¬ ((6 : Int) = 14) by decide, show ¬ ((6 : Int) = 15) by decide, show ¬ ((6 : Int) = 16) by decide, show ¬ ((6 : Int) = 17) by decide, show ¬ ((6 : Int) = 8) by decide, show ¬ ((6 : Int) = 2) by decide, show ¬ ((6 : Int) = 3) by decide, show ¬ ((6 : Int) = 1) by decide]
    by_cases y0 : nm p c < 0
    · rw [if_pos y0, if_pos y0]
    · rw [if_neg y0, if_neg y0]
      by_cases y1 : b ≤ nm p c
      · rw [if_pos y1, if_pos y1]
      · rw [if_neg y1, if_neg y1]
        unfold shl
        rw [Nat.min_eq_left (show (nm p c).toNat ≤ IntKind.i64.bits from by show _ ≤ 64; omega), i64_w, nm_wrap h]
  by_cases c7 : op = 7
  · subst c7
    simp only [if_false, if_true, show ¬ ((7 : Int) = 4) by decide, show ¬ ((7 : Int) = 5) by decide, show ¬ ((7 : Int) = 12) by decide, show ¬ ((7 : Int) = 13) by decide, show ¬ ((7 : Int) = 14) by decide, show ¬ ((7 : Int) = 15) by decide, show ¬ ((7 : Int) = 16) by decide, show ¬ ((7 : Int) = 17) by decide, show ¬ ((7 : Int) = 8) by decide, show ¬ ((7 : Int) = 2) by decide, show ¬ ((7 : Int) = 3) by decide, show ¬ ((7 : Int) = 1) by decide, show ¬ ((7 : Int) = 6) by decide]
    by_cases y0 : nm p c < 0
    · rw [if_pos y0, if_pos y0]
    · rw [if_neg y0, if_neg y0]
      by_cases y1 : b ≤ nm p c
      · rw [if_pos y1, if_pos y1]
      · rw [if_neg y1, if_neg y1]
        unfold shr
        rw [Nat.min_eq_left (show (nm p c).toNat ≤ IntKind.i64.bits from by show _ ≤ 64; omega)]
  simp only [if_neg c6, if_neg c7]

/-! The reference. -/
theorem shl_loop {b p : Int} (h : Sz b p) (y : Int) (hy : y ≤ 32) : ∀ (d : Nat) (k : Nat) (i : Nat) (u x : Int), (i : Int) + d = y → 41 + d ≤ k → u = x * 2 ^ i % p → bluebellref01_shifted.l0 k u y b true i = some (nm p (x * 2 ^ y.toNat)) := by
  intro d
  induction d with
  | zero =>
    intro k i u x hi hk hu
    obtain ⟨k, rfl⟩ : ∃ m, k = m + 1 := ⟨k - 1, by omega⟩
    simp only [bluebellref01_shifted.l0]
    rw [if_neg (by omega), norm_ge h (by omega), hu, nm_mod h]
    simp only [Option.bind_some]
    rw [show y.toNat = i from by omega]
  | succ d ih =>
    intro k i u x hi hk hu
    obtain ⟨k, rfl⟩ : ∃ m, k = m + 1 := ⟨k - 1, by omega⟩
    simp only [bluebellref01_shifted.l0]
    have hp := sz_pos h
    rw [if_pos (by omega), if_pos trivial, power_ge h (by omega)]
    simp only [Option.bind_some]
    have u0 := Int.emod_nonneg (x * 2 ^ i) (show p ≠ 0 by omega)
    have u1 := Int.emod_lt_of_pos (x * 2 ^ i) hp
    have hp32 : p ≤ 4294967296 := by rcases h with ⟨_, rfl⟩ | ⟨_, rfl⟩ | ⟨_, rfl⟩ <;> decide
    rw [if_neg (by omega)]
    have e1 : wrap64 (u * 2) = u * 2 := by unfold wrap64; omega
    have e2 : Int.tmod (u * 2) p = u * 2 % p := Int.tmod_eq_emod_of_nonneg (by omega)
    have e3 : wrap64 ((i : Int) + 1) = ((i + 1 : Nat) : Int) := by unfold wrap64; omega
    rw [e1, e2, e3]
    refine ih k (i + 1) _ x (by omega) (by omega) ?_
    rw [hu, emod_mul_left_, Int.pow_succ, Int.mul_assoc]
theorem shr_loop {b p : Int} (h : Sz b p) (y : Int) (hy : y ≤ 32) (x : Int) (hx : 0 ≤ x) (hx2 : x ≤ 4294967296) : ∀ (d : Nat) (k : Nat) (i : Nat) (u : Int), (i : Int) + d = y → 41 + d ≤ k → u = x / 2 ^ i → bluebellref01_shifted.l0 k u y b false i = some (nm p (x / 2 ^ y.toNat)) := by
  intro d
  induction d with
  | zero =>
    intro k i u hi hk hu
    obtain ⟨k, rfl⟩ : ∃ m, k = m + 1 := ⟨k - 1, by omega⟩
    simp only [bluebellref01_shifted.l0]
    rw [if_neg (by omega), norm_ge h (by omega), hu]
    simp only [Option.bind_some]
    rw [show y.toNat = i from by omega]
  | succ d ih =>
    intro k i u hi hk hu
    obtain ⟨k, rfl⟩ : ∃ m, k = m + 1 := ⟨k - 1, by omega⟩
    simp only [bluebellref01_shifted.l0]
    obtain ⟨u0, u1⟩ := div_le_self hx i
    rw [if_pos (by omega), if_neg (by decide)]
    have e2 : Int.tdiv u 2 = u / 2 := Int.tdiv_eq_ediv_of_nonneg (by omega)
    have e1 : wrap64 (u / 2) = u / 2 := by unfold wrap64; omega
    have e3 : wrap64 ((i : Int) + 1) = ((i + 1 : Nat) : Int) := by unfold wrap64; omega
    rw [e2, e1, e3]
    exact ih k (i + 1) _ (by omega) (by omega) (by rw [hu, div_next])
theorem bits_sz {b p : Int} (h : Sz b p) : bluebellref01_Bits.f b = some true := by
  rcases h with ⟨rfl, _⟩ | ⟨rfl, _⟩ | ⟨rfl, _⟩ <;> rfl
theorem sized_sz {b p : Int} (h : Sz b p) : word_sized.f b = some true := by
  rcases h with ⟨rfl, _⟩ | ⟨rfl, _⟩ | ⟨rfl, _⟩ <;> rfl
theorem sz_or (b : Int) : (∃ p, Sz b p) ∨ (word_sized.f b = some false ∧ bluebellref01_Bits.f b = some false) := by
  by_cases h1 : b = 16
  · exact .inl ⟨_, .inl ⟨h1, rfl⟩⟩
  by_cases h2 : b = 24
  · exact .inl ⟨_, .inr (.inl ⟨h2, rfl⟩)⟩
  by_cases h3 : b = 32
  · exact .inl ⟨_, .inr (.inr ⟨h3, rfl⟩)⟩
  · refine .inr ⟨?_, ?_⟩
    · unfold word_sized.f; rw [if_neg h1, if_neg h2]; simp [h3]
    · unfold bluebellref01_Bits.f; rw [if_neg h1, if_neg h2]; simp [h3]
theorem truth_ref (b : Bool) : bluebellref01_truth.f b = some (if b = true then -1 else 0) := by cases b <;> rfl
theorem bitwise_ref {b p : Int} (h : Sz b p) (x y : Int) {t0 t1 t2 t3 : Int} (ht : Bit t0 ∧ Bit t1 ∧ Bit t2 ∧ Bit t3) : bluebellref01_bitwise.f x y b t0 t1 t2 t3 = some (nm p (bitsum t0 t1 t2 t3 b.toNat (x % p) (y % p))) := by
  unfold bluebellref01_bitwise.f
  rw [if_pos ht]
  rcases h with ⟨rfl, rfl⟩ | ⟨rfl, rfl⟩ | ⟨rfl, rfl⟩
  · rfl
  · rfl
  · rfl
theorem shifted_ref {b p : Int} (h : Sz b p) (x y : Int) (l : Bool) {k : Nat} (hk : 100 ≤ k) : bluebellref01_shifted.f k x y b l =
    if y < 0 then some 0 else if b ≤ y then some 0 else some (nm p (if l = true then x * 2 ^ y.toNat else x % p / 2 ^ y.toNat)) := by
  obtain ⟨k, rfl⟩ : ∃ m, k = m + 1 := ⟨k - 1, by omega⟩
  unfold bluebellref01_shifted.f
  have hs := sz_le h
  have hp := sz_pos h
  have u0 := Int.emod_nonneg x (show p ≠ 0 by omega)
  have u1 := Int.emod_lt_of_pos x hp
  have hp32 : p ≤ 4294967296 := by rcases h with ⟨_, rfl⟩ | ⟨_, rfl⟩ | ⟨_, rfl⟩ <;> decide
  by_cases y0 : y < 0
  · rw [if_pos y0, if_pos y0]; simp [bluebellref01_shifted.j0]
  rw [if_neg y0, if_neg y0]
  by_cases y1 : b ≤ y
  · rw [if_pos y1]
    have : decide (y ≥ b) = true := decide_eq_true y1
    rw [this]; simp [bluebellref01_shifted.j0]
  rw [if_neg y1]
  have : decide (y ≥ b) = false := decide_eq_false y1
  rw [this]
  simp only [bluebellref01_shifted.j0]
  rw [if_neg (by decide), unsigned_ge h (by omega)]
  simp only [Option.bind_some]
  cases l with
  | true =>
    rw [if_pos rfl]
    refine (shl_loop h y (by omega) y.toNat k 0 (x % p) (x % p) (by omega) (by omega) (by simp)).trans ?_
    congr 1
    refine nm_congr h ?_
    rw [emod_mul_left_]
  | false =>
    rw [if_neg (by decide)]
    exact shr_loop h y (by omega) (x % p) u0 (by omega) y.toNat k 0 (x % p) (by omega) (by omega) (by simp)
end Go.Proofs.Ythllfmbdapdogaa.PWord
