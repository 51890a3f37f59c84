-- Written by a program of this session (wip/p2/p2.py) on the kit's print: the machine's side of the law; nothing in it is trusted, Lean checks it.
import Derived.Test.YthllfmbdapdogaaZPPWordx0
import Derived.Test.YthllfmbdapdogaaZPPWordx3
namespace Go.Proofs.Ythllfmbdapdogaa.PWord
open Go.RowKit Go.Proofs.YthllfmbdapdogaaW.PrintWords Go.Proofs.YthllfmbdapdogaaW.PrintLast Go.Proofs.YthllfmbdapdogaaW.PrintMore
attribute [local go_sem] max2_int min2_int max_two min_two max_three min_three max_four min_four   -- for this text's walks alone
set_option linter.unusedVariables false
set_option linter.unusedSimpArgs false

/-! ### bluebellref01_bitwise: function 49 -/
-- GIVEN bluebell/bluebellref01.bitwise
-- rounds no
-- making yes
-- deps bluebell/bluebellref01.unsigned bluebell/bluebellref01.norm
/-- The word of a number: what differs from it by a multiple of the power. -/
def nm (p v : Int) : Int := (v + p / 2) % p - p / 2
def Sz (bits p : Int) : Prop := (bits = 16 ∧ p = 65536) ∨ (bits = 24 ∧ p = 16777216) ∨ (bits = 32 ∧ p = 4294967296)
theorem power_sz {bits p : Int} (h : Sz bits p) : bluebellref01_power.f 40 bits = some p := by
  rcases h with ⟨rfl, rfl⟩ | ⟨rfl, rfl⟩ | ⟨rfl, rfl⟩ <;> decide +kernel
theorem tmod_form (a b : Int) (hb : 0 < b) : ∃ q, a = b * q + Int.tmod a b ∧ (0 ≤ a → 0 ≤ Int.tmod a b ∧ Int.tmod a b < b) ∧ (a ≤ 0 → Int.tmod a b ≤ 0 ∧ -b < Int.tmod a b) := by
  refine ⟨a.tdiv b, (Int.mul_tdiv_add_tmod a b).symm, fun h => ⟨Int.tmod_nonneg _ h, Int.tmod_lt_of_pos _ hb⟩, fun h => ?_⟩
  have h1 := Int.neg_tmod (a := -a) (b := b)
  rw [Int.neg_neg] at h1
  have h2 := Int.tmod_nonneg b (a := -a) (by omega)
  have h3 := Int.tmod_lt_of_pos (-a) hb
  omega
theorem norm_ref {bits p : Int} (h : Sz bits p) (v : Int) : bluebellref01_norm.f 40 v bits = some (nm p v) := by
  have hp := power_sz h
  unfold bluebellref01_norm.f
  rw [hp]
  simp only [Option.bind_some]
  obtain ⟨q, e1, e2, e3⟩ := tmod_form v p (by rcases h with ⟨_, rfl⟩ | ⟨_, rfl⟩ | ⟨_, rfl⟩ <;> omega)
  generalize Int.tmod v p = m at *
  have h0 : (0 ≤ v) ∨ v ≤ 0 := by omega
  rcases h with ⟨_, rfl⟩ | ⟨_, rfl⟩ | ⟨_, rfl⟩
  all_goals
    simp only [show Int.tdiv (wrap64 (-65536)) 2 = -32768 from by decide +kernel, show Int.tdiv (65536) 2 = 32768 from by decide +kernel, show Int.tdiv (wrap64 (-16777216)) 2 = -8388608 from by decide +kernel, show Int.tdiv (16777216) 2 = 8388608 from by decide +kernel, show Int.tdiv (wrap64 (-4294967296)) 2 = -2147483648 from by decide +kernel, show Int.tdiv (4294967296) 2 = 2147483648 from by decide +kernel]
    unfold nm wrap64
    rw [if_neg (by omega)]
    repeat' split
    all_goals (congr 1; omega)
theorem unsigned_ref {bits p : Int} (h : Sz bits p) (v : Int) : bluebellref01_unsigned.f 40 v bits = some (v % p) := by
  unfold bluebellref01_unsigned.f
  rw [norm_ref h, power_sz h]
  simp only [Option.bind_some]
  rcases h with ⟨_, rfl⟩ | ⟨_, rfl⟩ | ⟨_, rfl⟩
  all_goals
    unfold nm wrap64
    split
    all_goals (congr 1; omega)
def tab (t0 t1 t2 t3 a b : Int) : Int := if a % 2 = 0 then (if b % 2 = 0 then t0 else t1) else (if b % 2 = 0 then t2 else t3)
def bitsum (t0 t1 t2 t3 : Int) : Nat → Int → Int → Int
  | 0, _, _ => 0
  | n + 1, a, b => tab t0 t1 t2 t3 a b + 2 * bitsum t0 t1 t2 t3 n (a / 2) (b / 2)
def Bit (t : Int) : Prop := t = 0 ∨ t = 1
instance (t : Int) : Decidable (Bit t) := by unfold Bit; infer_instance
instance (a b : Int) : Decidable (Sz a b) := by unfold Sz; infer_instance
theorem div_pow (a : Int) (n : Nat) : a / 2 / (2 : Int) ^ n = a / (2 : Int) ^ (n + 1) := by
  rw [Int.ediv_ediv_of_nonneg (by omega), Int.pow_succ, Int.mul_comm]
theorem bitsum_snoc (t0 t1 t2 t3 : Int) (n : Nat) : ∀ a b : Int, bitsum t0 t1 t2 t3 (n + 1) a b = bitsum t0 t1 t2 t3 n a b + 2 ^ n * tab t0 t1 t2 t3 (a / 2 ^ n) (b / 2 ^ n) := by
  induction n with
  | zero => intro a b; simp [bitsum]
  | succ n ih =>
    intro a b
    rw [bitsum, ih]
    conv => rhs; rw [bitsum]
    rw [div_pow, div_pow, Int.pow_succ 2 n]
    generalize tab t0 t1 t2 t3 (a / (2 ^ n * 2)) (b / (2 ^ n * 2)) = x
    generalize bitsum t0 t1 t2 t3 n (a / 2) (b / 2) = y
    generalize (2 : Int) ^ n = z
    rw [Int.mul_add, Int.add_assoc, ← Int.mul_assoc, Int.mul_comm 2 z]
theorem tab_bit {t0 t1 t2 t3 : Int} (h0 : Bit t0) (h1 : Bit t1) (h2 : Bit t2) (h3 : Bit t3) (a b : Int) : 0 ≤ tab t0 t1 t2 t3 a b ∧ tab t0 t1 t2 t3 a b ≤ 1 := by
  unfold tab Bit at *; split <;> split <;> omega
theorem bitsum_bound {t0 t1 t2 t3 : Int} (h0 : Bit t0) (h1 : Bit t1) (h2 : Bit t2) (h3 : Bit t3) (n : Nat) : ∀ a b : Int, 0 ≤ bitsum t0 t1 t2 t3 n a b ∧ bitsum t0 t1 t2 t3 n a b < 2 ^ n := by
  induction n with
  | zero => intro a b; simp [bitsum]
  | succ n ih =>
    intro a b
    have := ih (a / 2) (b / 2)
    have := tab_bit h0 h1 h2 h3 a b
    rw [bitsum, Int.pow_succ]
    omega
def bluebellref01_bitwise.f (a0 a1 a2 t0 t1 t2 t3 : Int) : Option Int :=
  if Bit t0 ∧ Bit t1 ∧ Bit t2 ∧ Bit t3 then
    (if a2 = 16 then some (nm 65536 (bitsum t0 t1 t2 t3 16 (a0 % 65536) (a1 % 65536)))
     else if a2 = 24 then some (nm 16777216 (bitsum t0 t1 t2 t3 24 (a0 % 16777216) (a1 % 16777216)))
     else if a2 = 32 then some (nm 4294967296 (bitsum t0 t1 t2 t3 32 (a0 % 4294967296) (a1 % 4294967296)))
     else none) else none
theorem pow_le_32 {n : Nat} (h : n ≤ 32) : (2 : Int) ^ n ≤ 4294967296 := by
  have := Nat.pow_le_pow_right (n := 2) (by omega) h
  have h2 : ((2 ^ n : Nat) : Int) = (2 : Int) ^ n := Int.natCast_pow 2 n
  omega
theorem div_le_self {a : Int} (h : 0 ≤ a) (n : Nat) : 0 ≤ a / 2 ^ n ∧ a / 2 ^ n ≤ a := ⟨Int.ediv_nonneg h (Int.le_of_lt (Int.pow_pos (by omega))), Int.ediv_le_self _ h⟩
theorem div_next (a : Int) (n : Nat) : a / 2 ^ n / 2 = a / 2 ^ (n + 1) := by
  rw [Int.ediv_ediv_of_nonneg (Int.le_of_lt (Int.pow_pos (by omega))), Int.pow_succ]
set_option maxHeartbeats 1000000 in
theorem bluebellref01_bitwise.walk (a0 a1 a2 p t0 t1 t2 t3 : Int) (n : Nat) (w : World) (hs : Sz a2 p) (hn : a2 = n) (h0 : Bit t0) (h1 : Bit t1) (h2 : Bit t2) (h3 : Bit t3) :
    Calls Try.prog 49 #[.int .i64 a0, .int .i64 a1, .int .i64 a2, .agg #[.int .i64 t0, .int .i64 t1, .int .i64 t2, .int .i64 t3]] w fun e w' => e = .returned (.int .i64 (nm p (bitsum t0 t1 t2 t3 n (a0 % p) (a1 % p)))) ∧ Below w.heap.size w w' := by
  have hu0 := Aside0.mk (unsigned_ref hs a0)
  have hu1 := Aside0.mk (unsigned_ref hs a1)
  have hnr := Aside0.mk (norm_ref hs (bitsum t0 t1 t2 t3 n (a0 % p) (a1 % p)))
  have hn32 : n ≤ 32 := by rcases hs with ⟨h, _⟩ | ⟨h, _⟩ | ⟨h, _⟩ <;> omega
  have hp : 0 < p := by rcases hs with ⟨_, h⟩ | ⟨_, h⟩ | ⟨_, h⟩ <;> omega
  have hp2 : p ≤ 4294967296 := by rcases hs with ⟨_, h⟩ | ⟨_, h⟩ | ⟨_, h⟩ <;> omega
  have hx0 := Int.emod_nonneg a0 (b := p) (by omega)
  have hy0 := Int.emod_nonneg a1 (b := p) (by omega)
  have hx1 := Int.emod_lt_of_pos a0 hp
  have hy1 := Int.emod_lt_of_pos a1 hp
  generalize a0 % p = x at *
  generalize a1 % p = y at *
  have hx2 : x ≤ 4294967296 := by omega
  have hy2 : y ≤ 4294967296 := by omega
  have HS := Aside0.mk hs
  subst hn
  clear hs hx1 hy1 hp hp2
  go_enter Try.func49, Try.ntmps49
  go_wp2_with (first | (go_at_call 52; (with_reducible refine (bluebellref01_unsigned.calls 40 a0 _ _ _ hu0.out).mono ?_); rintro e w' ⟨rfl, ⟨nd, rfl⟩⟩) | (go_at_call 52; (with_reducible refine (bluebellref01_unsigned.calls 40 a1 _ _ _ hu1.out).mono ?_); rintro e w' ⟨rfl, ⟨nd, rfl⟩⟩))
  go_loop [0, 1, 9, 10, 11] (fun s0 s1 s9 s10 s11 => ∃ k : Nat, k ≤ n ∧ s0 = .int .i64 (x / 2 ^ k) ∧ s1 = .int .i64 (y / 2 ^ k) ∧ s9 = .int .i64 (bitsum t0 t1 t2 t3 k x y) ∧ s10 = .int .i64 (2 ^ k) ∧ s11 = .int .i64 k) (fun _ _ _ _ s11 => n - (intOf s11).toNat)
  case atStart => exact ⟨0, Nat.zero_le _, by simp, by simp, rfl, by simp, rfl⟩
  case round =>
    obtain ⟨k, hk, rfl, rfl, rfl, rfl, rfl⟩ := hrel
    have hb := bitsum_bound h0 h1 h2 h3 k x y
    have hp32 := pow_le_32 (n := k) (by omega)
    have hp0 : (0 : Int) < 2 ^ k := Int.pow_pos (by omega)
    obtain ⟨dx0, dx1⟩ := div_le_self hx0 k
    obtain ⟨dy0, dy1⟩ := div_le_self hy0 k
    by_cases hlt : k < n
    · have hsn := Aside0.mk (bitsum_snoc t0 t1 t2 t3 k x y)
      have ex := Aside0.mk (div_next x k)
      have ey := Aside0.mk (div_next y k)
      have e2 := Aside0.mk (Int.pow_succ (2 : Int) k)
      generalize x / 2 ^ k = u at *
      generalize y / 2 ^ k = v at *
      generalize bitsum t0 t1 t2 t3 k x y = o at *
      generalize (2 : Int) ^ k = q at *
      have hu : u % 2 = 0 ∨ u % 2 = 1 := by omega
      have hv : v % 2 = 0 ∨ v % 2 = 1 := by omega
      unfold Bit at h0 h1 h2 h3
      have hcell : ∃ j : Nat, j < 4 ∧ 2 * (u % 2) + v % 2 = j ∧ ([t0, t1, t2, t3] : List Int)[j]? = some (tab t0 t1 t2 t3 u v) := by
        unfold tab
        rcases hu with a | a <;> rcases hv with b | b <;> simp only [a, b]
        · exact ⟨0, by omega, by omega, rfl⟩
        · exact ⟨1, by omega, by omega, rfl⟩
        · exact ⟨2, by omega, by omega, rfl⟩
        · exact ⟨3, by omega, by omega, rfl⟩
      generalize tab t0 t1 t2 t3 u v = t at *
      rcases hcell with ⟨j, hj4, hj, hcell⟩
      have hu9 : u ≤ 4294967296 := by omega
      have hv9 : v ≤ 4294967296 := by omega
      have hk9 : (k : Int) < 32 := by omega
      clear hu hv hx0 hy0 dx1 dy1 hx2 hy2 hk hn32
      have hq0 : q * 0 = 0 := Int.mul_zero q
      have hq1 : q * 1 = q := Int.mul_one q
      have hj' : j = 0 ∨ j = 1 ∨ j = 2 ∨ j = 3 := by omega
      rcases hj' with rfl | rfl | rfl | rfl
      all_goals (simp at hcell; subst hcell)
      · rcases h0 with rfl | rfl
        all_goals
          go_wp2
          go_round
          case rel => exact ⟨k + 1, by omega, by rw [← ex.out], by rw [← ey.out], by rw [hsn.out]; simp, by rw [e2.out], by go_num⟩
          case measure => simp [intOf]; omega
      · rcases h1 with rfl | rfl
        all_goals
          go_wp2
          go_round
          case rel => exact ⟨k + 1, by omega, by rw [← ex.out], by rw [← ey.out], by rw [hsn.out]; simp, by rw [e2.out], by go_num⟩
          case measure => simp [intOf]; omega
      · rcases h2 with rfl | rfl
        all_goals
          go_wp2
          go_round
          case rel => exact ⟨k + 1, by omega, by rw [← ex.out], by rw [← ey.out], by rw [hsn.out]; simp, by rw [e2.out], by go_num⟩
          case measure => simp [intOf]; omega
      · rcases h3 with rfl | rfl
        all_goals
          go_wp2
          go_round
          case rel => exact ⟨k + 1, by omega, by rw [← ex.out], by rw [← ey.out], by rw [hsn.out]; simp, by rw [e2.out], by go_num⟩
          case measure => simp [intOf]; omega
    · obtain rfl : k = n := by omega
      clear hb hp32 hp0 dx0 dx1 dy0 dy1 hx0 hy0 hx2 hy2 hk hn32
      go_wp2_with (first | (go_at_call 46; (with_reducible refine (bluebellref01_norm.calls 40 _ _ _ _ hnr.out).mono ?_); rintro e w' ⟨rfl, ⟨nd, rfl⟩⟩))
      go_ret
      exact ⟨rfl, by repeat (first | exact Below.refl _ _ | apply pw_below_drewN | apply below_drew | apply below_alloc)⟩

theorem bluebellref01_bitwise.calls (a0 a1 a2 t0 t1 t2 t3 r : Int) (w : World) (h : bluebellref01_bitwise.f a0 a1 a2 t0 t1 t2 t3 = some r) :
    Calls Try.prog 49 #[.int .i64 a0, .int .i64 a1, .int .i64 a2, .agg #[.int .i64 t0, .int .i64 t1, .int .i64 t2, .int .i64 t3]] w fun e w' => e = .returned (.int .i64 r) ∧ Below w.heap.size w w' := by
  unfold bluebellref01_bitwise.f at h
  by_cases hb : Bit t0 ∧ Bit t1 ∧ Bit t2 ∧ Bit t3
  · rw [if_pos hb] at h
    obtain ⟨h0, h1, h2, h3⟩ := hb
    by_cases c : a2 = 16
    · rw [if_pos c] at h
      obtain rfl := Option.some.inj h
      exact bluebellref01_bitwise.walk a0 a1 a2 65536 t0 t1 t2 t3 16 w (.inl ⟨c, rfl⟩) c h0 h1 h2 h3
    rw [if_neg c] at h
    by_cases c : a2 = 24
    · rw [if_pos c] at h
      obtain rfl := Option.some.inj h
      exact bluebellref01_bitwise.walk a0 a1 a2 16777216 t0 t1 t2 t3 24 w (.inr (.inl ⟨c, rfl⟩)) c h0 h1 h2 h3
    rw [if_neg c] at h
    by_cases c : a2 = 32
    · rw [if_pos c] at h
      obtain rfl := Option.some.inj h
      exact bluebellref01_bitwise.walk a0 a1 a2 4294967296 t0 t1 t2 t3 32 w (.inr (.inr ⟨c, rfl⟩)) c h0 h1 h2 h3
    rw [if_neg c] at h
    exact absurd h (by simp)
  · rw [if_neg hb] at h
    exact absurd h (by simp)


end Go.Proofs.Ythllfmbdapdogaa.PWord
