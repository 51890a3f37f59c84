/- Plain laws: Exact, of the program and of the reference, by one formula. -/
import Derived.Test.YthllfmbdapdogaaWordRef
import Derived.Test.YthllfmbdapdogaaPWordx13
namespace Go.Proofs.Ythllfmbdapdogaa.PWord
open Go.RowKit Go.Proofs.YthllfmbdapdogaaW.PrintWords Go.Proofs.YthllfmbdapdogaaW.PrintLast Go.Proofs.YthllfmbdapdogaaW.PrintMore
set_option linter.unusedVariables false
set_option linter.unusedSimpArgs false

/-- A number is small for m bits and a sign, where the upper bits of its low 64 are all alike. -/
theorem low_parts {m : Nat} (hm : m ≤ 31) {x : Int} (h1 : -2 ^ m ≤ x) (h2 : x < 2 ^ m) : low x / 2 ^ m = 0 ∨ low x / 2 ^ m = 2 ^ (64 - m) - 1 := by
  have lx := low_cast x
  have hq : (2 : Int) ^ m = ((2 ^ m : Nat) : Int) := (Int.natCast_pow 2 m).symm
  have h31 := pow_le_32 (n := m) (by omega)
  have hmul : 2 ^ (64 - m) * 2 ^ m = 2 ^ 64 := by rw [← Nat.pow_add]; congr 1; omega
  have hpos : 0 < 2 ^ m := Nat.pow_pos (by omega)
  by_cases c : 0 ≤ x
  · left; exact Nat.div_eq_of_lt (by omega)
  · right
    refine Nat.div_eq_of_lt_le ?_ ?_
    · rw [Nat.sub_mul, hmul, Nat.one_mul]; omega
    · rw [Nat.add_mul, Nat.sub_mul, hmul, Nat.one_mul]; omega
theorem small_of_parts {m : Nat} (hm : m ≤ 31) {z : Nat} (h : z / 2 ^ m = 0 ∨ z / 2 ^ m = 2 ^ (64 - m) - 1) (hz : z < 2 ^ 64) : -2 ^ m ≤ wrap64 (z : Int) ∧ wrap64 (z : Int) < 2 ^ m := by
  have hq : (2 : Int) ^ m = ((2 ^ m : Nat) : Int) := (Int.natCast_pow 2 m).symm
  have h31 := pow_le_32 (n := m) (by omega)
  have hmul : 2 ^ (64 - m) * 2 ^ m = 2 ^ 64 := by rw [← Nat.pow_add]; congr 1; omega
  have hpos : 0 < 2 ^ m := Nat.pow_pos (by omega)
  rcases h with h | h
  · have : z < 2 ^ m := by
      rcases Nat.div_eq_zero_iff.1 h with h | h
      · omega
      · exact h
    unfold wrap64; omega
  · have := Nat.div_mul_le_self z (2 ^ m)
    rw [h, Nat.sub_mul, hmul, Nat.one_mul] at this
    unfold wrap64; omega
theorem low_lt (x : Int) : low x < 2 ^ 64 := by unfold low; omega
theorem bits_small {m : Nat} (hm : m ≤ 31) {x y : Int} (hx : -2 ^ m ≤ x ∧ x < 2 ^ m) (hy : -2 ^ m ≤ y ∧ y < 2 ^ m) :
    (-2 ^ m ≤ Go.bits .and .i64 x y ∧ Go.bits .and .i64 x y < 2 ^ m) ∧ (-2 ^ m ≤ Go.bits .or .i64 x y ∧ Go.bits .or .i64 x y < 2 ^ m) ∧ (-2 ^ m ≤ Go.bits .xor .i64 x y ∧ Go.bits .xor .i64 x y < 2 ^ m) := by
  rw [bits_low_and, bits_low_or, bits_low_xor]
  have px := low_parts hm hx.1 hx.2
  have py := low_parts hm hy.1 hy.2
  refine ⟨small_of_parts hm ?_ (Nat.lt_of_le_of_lt Nat.and_le_left (low_lt x)), small_of_parts hm ?_ (Nat.or_lt_two_pow (low_lt x) (low_lt y)), small_of_parts hm ?_ (Nat.xor_lt_two_pow (low_lt x) (low_lt y))⟩
  · rw [Nat.and_div_two_pow]
    rcases px with a | a <;> rcases py with b | b <;> rw [a, b] <;> simp
  · rw [Nat.or_div_two_pow]
    rcases px with a | a <;> rcases py with b | b <;> rw [a, b] <;> simp
  · rw [Nat.xor_div_two_pow]
    rcases px with a | a <;> rcases py with b | b <;> rw [a, b] <;> simp
def S (v : Int) : Prop := -32768 ≤ v ∧ v ≤ 32767
instance (v : Int) : Decidable (S v) := by unfold S; infer_instance
theorem sm_S (v : Int) : word_Exact.sm v = decide (S v) := by
  unfold word_Exact.sm S; by_cases h : -32768 ≤ v <;> by_cases h2 : v ≤ 32767 <;> simp [h, h2]
theorem narrow_S (v : Int) : bluebellref01_narrow.f v = some (decide (S v)) := by
  unfold bluebellref01_narrow.f S; by_cases h : -32768 ≤ v <;> by_cases h2 : v ≤ 32767 <;> simp [h, h2]
theorem bits_S {x y : Int} (hx : S x) (hy : S y) : S (Go.bits .and .i64 x y) ∧ S (Go.bits .or .i64 x y) ∧ S (Go.bits .xor .i64 x y) := by
  unfold S at *
  have := bits_small (m := 15) (by omega) (x := x) (y := y) (by omega) (by omega)
  omega
theorem nm_S {b p : Int} (h : Sz b p) {v : Int} (hv : S v) : nm p v = v := by
  unfold S at hv; unfold nm; rcases h with ⟨_, rfl⟩ | ⟨_, rfl⟩ | ⟨_, rfl⟩ <;> omega
/-- What an operator gives for whole numbers. -/
def zv (op x y : Int) : Int :=
  if op = 1 then x * y else if op = 2 then x.tdiv y else if op = 3 then x.tmod y else if op = 4 then x + y else if op = 5 then x - y
  else if op = 6 then x * 2 ^ y.toNat else if op = 7 then x / 2 ^ y.toNat else if op = 8 then Go.bits .and .i64 x y else if op = 9 then Go.bits .or .i64 x y
  else if op = 10 then Go.bits .xor .i64 x y else if op = 11 then -(Go.bits .xor .i64 x y) - 1
  else if op = 12 then (if x = y then -1 else 0) else if op = 13 then (if x = y then 0 else -1) else if op = 14 then (if x < y then -1 else 0)
  else if op = 15 then (if x ≤ y then -1 else 0) else if op = 16 then (if y < x then -1 else 0) else if op = 17 then (if y ≤ x then -1 else 0)
  else if op = 18 then -x else -x - 1
/-- Is it exact? -/
def Ex (op x y v : Int) : Prop := S x ∧ S v ∧ (op = 18 ∨ op = 19 ∨ S y) ∧ ((op = 6 ∨ op = 7) → 0 ≤ x ∧ 0 ≤ y ∧ y ≤ 15) ∧ zv op x y = v
instance (op x y v : Int) : Decidable (Ex op x y v) := by unfold Ex; infer_instance
theorem pow_small {y : Int} (h : y ≤ 15) : (1 : Int) ≤ 2 ^ y.toNat ∧ (2 : Int) ^ y.toNat ≤ 32768 := by
  have h2 := two_pow_pos y.toNat
  have h1 := Nat.pow_le_pow_right (n := 2) (show 2 > 0 by omega) (show y.toNat ≤ 15 by omega)
  have h3 : ((2 ^ y.toNat : Nat) : Int) = (2 : Int) ^ y.toNat := Int.natCast_pow 2 _
  omega
theorem shl_small_val {x y : Int} (hx : 0 ≤ x) (hx2 : x ≤ 32767) (hy : y ≤ 15) : 0 ≤ x * 2 ^ y.toNat ∧ x * 2 ^ y.toNat ≤ 1073741824 := by
  obtain ⟨h1, h2⟩ := pow_small hy
  refine ⟨Int.mul_nonneg hx (by omega), ?_⟩
  have := Int.mul_le_mul hx2 h2 (by omega) (show (0 : Int) ≤ 32767 by omega)
  omega
theorem decide_false_iff {P : Prop} [Decidable P] (h : ¬ P) : decide P = false := decide_eq_false h
/-- The program's Exact, where Apply gives v without an error. -/
theorem word_ex {b p : Int} (h : Sz b p) (op a c v : Int) (h1 : 1 ≤ op) (h2 : op ≤ 19) (hap : ap p b op (nm p a) (nm p c) = some (v, 0)) : word_Exact.f op a c b = some (decide (Ex op (nm p a) (nm p c) v), 0) := by
  unfold word_Exact.f
  rw [apply_val h, if_neg (by omega), if_neg (by omega), hap]
  simp only [Option.bind_some, if_true, norm_word h, sm_S, decide_eq_true_eq]
  have rx := nm_small h a
  have ry := nm_small h c
  have hs := sz_le h
  have hp32 : 65536 ≤ p ∧ p ≤ 4294967296 := by rcases h with ⟨_, rfl⟩ | ⟨_, rfl⟩ | ⟨_, rfl⟩ <;> decide
  have r8 := and_nm h a c
  generalize nm p a = x at *
  generalize nm p c = y at *
  by_cases hx : S x
  rotate_left
  · rw [if_neg hx, decide_false_iff (fun z => hx z.1)]
  rw [if_pos hx]
  by_cases hv : S v
  rotate_left
  · rw [if_neg hv, decide_false_iff (fun z => hv z.2.1)]
  rw [if_pos hv]
  have ux := hx
  have uv := hv
  unfold S at ux uv
  by_cases o18 : op = 18
  · subst o18
    rw [if_pos rfl]
    have e : wrap64 (-x) = -x := by unfold wrap64; omega
    rw [e]
    congr 1; congr 1
    rw [Bool.eq_iff_iff]
    simp [Ex, hx, hv, zv]
  rw [if_neg o18]
  by_cases o19 : op = 19
  · subst o19
    rw [if_pos rfl]
    have e : wrap64 (-x - 1) = -x - 1 := by unfold wrap64; omega
    rw [bits_not, e]
    congr 1; congr 1
    rw [Bool.eq_iff_iff]
    simp [Ex, hx, hv, zv]
  rw [if_neg o19]
  by_cases o6 : op = 6
  · subst o6
    rw [if_pos rfl]
    by_cases k : 0 ≤ x ∧ 0 ≤ y ∧ y ≤ 15
    rotate_left
    · rw [if_neg k, decide_false_iff (fun z => k (z.2.2.2.1 (.inl rfl)))]
    rw [if_pos k]
    have hy : S y := by unfold S; omega
    obtain ⟨q1, q2⟩ := shl_small_val k.1 ux.2 k.2.2
    have e : shl .i64 x y = x * 2 ^ y.toNat := by
      unfold shl
      rw [Nat.min_eq_left (show y.toNat ≤ IntKind.i64.bits from by show _ ≤ 64; omega), i64_w]
      unfold wrap64; omega
    rw [e]
    congr 1; congr 1
    rw [Bool.eq_iff_iff]
    simp [Ex, hx, hv, hy, zv, k]
  rw [if_neg o6]
  by_cases o7 : op = 7
  · subst o7
    rw [if_pos rfl]
    by_cases k : 0 ≤ x ∧ 0 ≤ y ∧ y ≤ 15
    rotate_left
    · rw [if_neg k, decide_false_iff (fun z => k (z.2.2.2.1 (.inr rfl)))]
    rw [if_pos k]
    have hy : S y := by unfold S; omega
    obtain ⟨q1, q2⟩ := pow_small k.2.2
    simp only [ap, Int.reduceEq, if_false, if_true, reduceIte, if_neg (show ¬ y < 0 by omega), if_neg (show ¬ b ≤ y by omega), Option.some.injEq, Prod.mk.injEq] at hap
    have e : x % p = x := Int.emod_eq_of_lt (by omega) (by omega)
    obtain ⟨d0, d1⟩ := div_le_self k.1 y.toNat
    have e2 : nm p (x / 2 ^ y.toNat) = x / 2 ^ y.toNat := nm_S h (by unfold S; omega)
    rw [e, e2] at hap
    symm
    congr 1; congr 1
    rw [decide_eq_true_eq]
    simp [Ex, hx, hv, hy, zv, k, hap.1]
  rw [if_neg o7]
  by_cases hy : S y
  rotate_left
  · rw [if_neg hy, decide_false_iff (fun z => by rcases z.2.2.1 with q | q | q <;> contradiction)]
  rw [if_pos hy]
  have uy := hy
  unfold S at uy
  have mulb : -1073741824 ≤ x * y ∧ x * y ≤ 1073741824 := by
    have := Int.natAbs_mul x y
    have hxa : x.natAbs ≤ 32768 := by omega
    have hya : y.natAbs ≤ 32768 := by omega
    have := Nat.mul_le_mul hxa hya
    omega
  have hops : op = 1 ∨ op = 2 ∨ op = 3 ∨ op = 4 ∨ op = 5 ∨ op = 8 ∨ op = 9 ∨ op = 10 ∨ op = 11 ∨ op = 12 ∨ op = 13 ∨ op = 14 ∨ op = 15 ∨ op = 16 ∨ op = 17 := by omega
  have fin : ∀ z, word_Exact.opv op x y = some z → zv op x y = z → ((word_Exact.opv op x y).bind fun v_1 => some (v_1 == v, (0 : Int))) = some (decide (Ex op x y v), 0) := by
    intro z e1 e2
    rw [e1]
    simp only [Option.bind_some]
    congr 1; congr 1
    rw [Bool.eq_iff_iff]
    simp [Ex, hx, hv, hy, e2, o6, o7]
  obtain ⟨b1, b2, b3⟩ := bits_S hx hy
  have tvv : ∀ t : Bool, word_Exact.tv t = if t = true then -1 else 0 := fun _ => rfl
  rcases hops with rfl | rfl | rfl | rfl | rfl | rfl | rfl | rfl | rfl | rfl | rfl | rfl | rfl | rfl | rfl
  · exact fin (x * y) (by simp only [word_Exact.opv, Int.reduceEq, reduceIte]; congr 1; unfold wrap64; omega) (by simp [zv])
  · by_cases y0 : y = 0
    · simp [ap, y0] at hap
    · have d1 := Int.natAbs_tdiv_le_natAbs x y
      exact fin (x.tdiv y) (by simp only [word_Exact.opv, Int.reduceEq, reduceIte, if_neg y0]; congr 1; unfold wrap64; omega) (by simp [zv])
  · by_cases y0 : y = 0
    · simp [ap, y0] at hap
    · exact fin (x.tmod y) (by simp only [word_Exact.opv, Int.reduceEq, reduceIte, if_neg y0]) (by simp [zv])
  · exact fin (x + y) (by simp only [word_Exact.opv, Int.reduceEq, reduceIte]; congr 1; unfold wrap64; omega) (by simp [zv])
  · exact fin (x - y) (by simp only [word_Exact.opv, Int.reduceEq, reduceIte]; congr 1; unfold wrap64; omega) (by simp [zv])
  · exact fin (Go.bits .and .i64 x y) (by simp only [word_Exact.opv, Int.reduceEq, reduceIte]) (by simp [zv])
  · exact fin (Go.bits .or .i64 x y) (by simp only [word_Exact.opv, Int.reduceEq, reduceIte]) (by simp [zv])
  · exact fin (Go.bits .xor .i64 x y) (by simp only [word_Exact.opv, Int.reduceEq, reduceIte]) (by simp [zv])
  · refine fin (-(Go.bits .xor .i64 x y) - 1) ?_ (by simp [zv])
    simp only [word_Exact.opv, Int.reduceEq, reduceIte, bits_not]
    unfold S at b3
    congr 1; unfold wrap64; omega
  · exact fin (if x = y then -1 else 0) (by simp [word_Exact.opv, tvv]) (by simp [zv])
  · exact fin (if x = y then 0 else -1) (by by_cases e : x = y <;> simp [word_Exact.opv, tvv, e]) (by simp [zv])
  · exact fin (if x < y then -1 else 0) (by simp [word_Exact.opv, tvv]) (by simp [zv])
  · exact fin (if x ≤ y then -1 else 0) (by simp [word_Exact.opv, tvv]) (by simp [zv])
  · exact fin (if y < x then -1 else 0) (by simp [word_Exact.opv, tvv]) (by simp [zv])
  · exact fin (if y ≤ x then -1 else 0) (by simp [word_Exact.opv, tvv]) (by simp [zv])
/-- The reference's Exact, where Apply gives v without an error. -/
theorem ref_ex {b p : Int} (h : Sz b p) (op a c v : Int) (h1 : 1 ≤ op) (h2 : op ≤ 19) {k : Nat} (hk : 120 ≤ k) (hap : ap p b op (nm p a) (nm p c) = some (v, 0)) : bluebellref01_Exact.f k op a c b = some (decide (Ex op (nm p a) (nm p c) v), 0) := by
  obtain ⟨k, rfl⟩ : ∃ m, k = m + 4 := ⟨k - 4, by omega⟩
  unfold bluebellref01_Exact.f
  rw [ref_val h op a c (by omega), if_neg (by omega), if_neg (by omega), hap]
  simp only [Option.bind_some, if_true, norm_ge h (show 40 ≤ k + 4 by omega)]
  have rx := nm_small h a
  have ry := nm_small h c
  have hs := sz_le h
  have hp32 : 65536 ≤ p ∧ p ≤ 4294967296 := by rcases h with ⟨_, rfl⟩ | ⟨_, rfl⟩ | ⟨_, rfl⟩ <;> decide
  have r8 := and_nm h a c
  have r9 := or_mod h (nm p a) (nm p c)
  have r10 := xor_mod h (nm p a) (nm p c)
  have r11 := eqv_mod h (nm p a) (nm p c)
  generalize nm p a = x at *
  generalize nm p c = y at *
  have j1t : ∀ q, bluebellref01_Exact.j1 (q + 1) op x y v true = some (false, 0) := fun q => by simp [bluebellref01_Exact.j1]
  have hj0 : (if op = 18 then bluebellref01_Exact.j0 (k + 4) op x y v true else bluebellref01_Exact.j0 (k + 4) op x y v (op == 19)) = bluebellref01_Exact.j0 (k + 4) op x y v (decide (op = 18 ∨ op = 19)) := by
    by_cases o : op = 18
    · rw [if_pos o]; simp [o]
    · rw [if_neg o]
      congr 1
      rw [Bool.eq_iff_iff]; simp [o]
  rw [hj0]
  simp only [bluebellref01_Exact.j0, narrow_S, Option.bind_some, decide_eq_true_eq]
  by_cases hx : S x
  rotate_left
  · rw [if_neg hx, j1t, decide_false_iff (fun z => hx z.1)]
  rw [if_pos hx]
  by_cases hy : (op = 18 ∨ op = 19) ∨ S y
  rotate_left
  · rw [if_neg (fun q => hy (.inl q)), if_neg (fun q => hy (.inr q)), j1t, decide_false_iff (fun z => by rcases z.2.2.1 with q | q | q <;> simp [q] at hy)]
  have e0 : (if op = 18 ∨ op = 19 then bluebellref01_Exact.j1 (k + 3) op x y v (!decide (S v)) else if S y then bluebellref01_Exact.j1 (k + 3) op x y v (!decide (S v)) else bluebellref01_Exact.j1 (k + 3) op x y v true) = bluebellref01_Exact.j1 (k + 3) op x y v (!decide (S v)) := by
    by_cases q : op = 18 ∨ op = 19
    · rw [if_pos q]
    · rw [if_neg q, if_pos (hy.resolve_left q)]
  rw [e0]
  by_cases hv : S v
  rotate_left
  · rw [show (!decide (S v)) = true from by simp [hv], j1t, decide_false_iff (fun z => hv z.2.1)]
  rw [show (!decide (S v)) = false from by simp [hv]]
  simp only [bluebellref01_Exact.j1]
  rw [if_neg (by decide)]
  have ux := hx
  have uv := hv
  unfold S at ux uv
  have hops : op = 1 ∨ op = 2 ∨ op = 3 ∨ op = 4 ∨ op = 5 ∨ op = 6 ∨ op = 7 ∨ op = 8 ∨ op = 9 ∨ op = 10 ∨ op = 11 ∨ op = 12 ∨ op = 13 ∨ op = 14 ∨ op = 15 ∨ op = 16 ∨ op = 17 ∨ op = 18 ∨ op = 19 := by omega
  have fin : ∀ z, bluebellref01_whole.f op x y = some (z, true) → zv op x y = z → op ≠ 6 → op ≠ 7 → ((bluebellref01_whole.f op x y).bind fun bt => if bt.2 = true then some (bt.1 == v, (0 : Int)) else if op = 6 then bluebellref01_Exact.j2 (k + 2) op x y true else bluebellref01_Exact.j2 (k + 2) op x y (op == 7)) = some (decide (Ex op x y v), 0) := by
    intro z e1 e2 n6 n7
    rw [e1]
    simp only [Option.bind_some, if_true]
    congr 1; congr 1
    rw [Bool.eq_iff_iff]
    have hy' : op = 18 ∨ op = 19 ∨ S y := by rcases hy with (q | q) | q <;> simp [q]
    simp [Ex, hx, hv, hy', e2, n6, n7]
  have bitw : ∀ z, (op = 8 ∨ op = 9 ∨ op = 10 ∨ op = 11) → zv op x y = z → v = nm p z → S z → ((bluebellref01_whole.f op x y).bind fun bt => if bt.2 = true then some (bt.1 == v, (0 : Int)) else if op = 6 then bluebellref01_Exact.j2 (k + 2) op x y true else bluebellref01_Exact.j2 (k + 2) op x y (op == 7)) = some (decide (Ex op x y v), 0) := by
    intro z ho e2 e3 hz
    have e4 : bluebellref01_whole.f op x y = some (0, false) := by rcases ho with rfl | rfl | rfl | rfl <;> simp [bluebellref01_whole.f]
    rw [e4]
    have n6 : ¬ op = 6 := by omega
    have n7 : (op == 7) = false := by rw [beq_eq_false_iff_ne]; omega
    have n77 : ¬ op = 7 := by omega
    simp only [Option.bind_some, n7, if_neg n6]
    simp only [bluebellref01_Exact.j2]
    simp only [Bool.false_eq_true, if_false]
    symm
    congr 1; congr 1
    rw [decide_eq_true_eq]
    have hy' : op = 18 ∨ op = 19 ∨ S y := by rcases hy with (q | q) | q <;> simp [q]
    refine ⟨hx, hv, hy', fun q => by omega, ?_⟩
    rw [e2, e3, nm_S h hz]
  have hyS : ¬ op = 18 → ¬ op = 19 → S y := fun q1 q2 => by rcases hy with (q | q) | q <;> first | contradiction | exact q
  have mulb : S y → -1073741824 ≤ x * y ∧ x * y ≤ 1073741824 := by
    intro hy
    unfold S at hy
    have := Int.natAbs_mul x y
    have hxa : x.natAbs ≤ 32768 := by omega
    have hya : y.natAbs ≤ 32768 := by omega
    have := Nat.mul_le_mul hxa hya
    omega
  rcases hops with rfl | rfl | rfl | rfl | rfl | rfl | rfl | rfl | rfl | rfl | rfl | rfl | rfl | rfl | rfl | rfl | rfl | rfl | rfl
  · have := mulb (hyS (by omega) (by omega))
    exact fin (x * y) (by simp only [bluebellref01_whole.f, reduceIte]; congr 2; unfold wrap64; omega) (by simp [zv]) (by omega) (by omega)
  · by_cases y0 : y = 0
    · simp [ap, y0] at hap
    · have d1 := Int.natAbs_tdiv_le_natAbs x y
      exact fin (x.tdiv y) (by simp only [bluebellref01_whole.f, Int.reduceEq, reduceIte, if_neg y0]; congr 2; unfold wrap64; omega) (by simp [zv]) (by omega) (by omega)
  · by_cases y0 : y = 0
    · simp [ap, y0] at hap
    · exact fin (x.tmod y) (by simp only [bluebellref01_whole.f, Int.reduceEq, reduceIte, if_neg y0]) (by simp [zv]) (by omega) (by omega)
  · exact fin (x + y) (by simp only [bluebellref01_whole.f, Int.reduceEq, reduceIte]; congr 2; unfold wrap64; omega) (by simp [zv]) (by omega) (by omega)
  · exact fin (x - y) (by simp only [bluebellref01_whole.f, Int.reduceEq, reduceIte]; congr 2; unfold wrap64; omega) (by simp [zv]) (by omega) (by omega)
  · have hy6 := hyS (by omega) (by omega)
    simp only [bluebellref01_whole.f, Int.reduceEq, reduceIte, Option.bind_some, Bool.false_eq_true, if_false]
    have e6 : ∀ t, bluebellref01_Exact.j3 (k + 1) 6 x y true = some (false, 0) ∧ (t = true → True) := fun t => ⟨by simp [bluebellref01_Exact.j3], fun _ => trivial⟩
    simp only [bluebellref01_Exact.j2, if_true]
    by_cases x0 : x < 0
    · rw [if_pos x0, (e6 true).1, decide_false_iff (fun z => by have := z.2.2.2.1 (.inl rfl); omega)]
    rw [if_neg x0]
    by_cases y0 : y < 0
    · rw [if_pos y0, (e6 true).1, decide_false_iff (fun z => by have := z.2.2.2.1 (.inl rfl); omega)]
    rw [if_neg y0]
    by_cases y1 : y ≤ 15
    rotate_left
    · rw [show decide (y > 15) = true from decide_eq_true (by omega), (e6 true).1, decide_false_iff (fun z => by have := z.2.2.2.1 (.inl rfl); omega)]
    rw [show decide (y > 15) = false from decide_eq_false (by omega)]
    simp only [bluebellref01_Exact.j3, Bool.false_eq_true, if_false, reduceIte]
    obtain ⟨q1, q2⟩ := shl_small_val (show 0 ≤ x by omega) ux.2 y1
    have hpw : bluebellref01_power.f k y = some (2 ^ y.toNat) := by
      have : ∀ m : Nat, m ≤ 15 → bluebellref01_power.f 40 (m : Int) = some (2 ^ m) := by decide +kernel
      have h3 := this y.toNat (by omega)
      rw [Int.toNat_of_nonneg (by omega)] at h3
      exact at_rounds (fun k => bluebellref01_power.mono y k) (by omega) h3
    rw [hpw]
    simp only [Option.bind_some]
    have e7 : wrap64 (x * 2 ^ y.toNat) = x * 2 ^ y.toNat := by unfold wrap64; omega
    rw [e7]
    simp only [ap, Int.reduceEq, reduceIte, if_neg y0, if_neg (show ¬ b ≤ y by omega), Option.some.injEq, Prod.mk.injEq] at hap
    congr 1; congr 1
    rw [Bool.eq_iff_iff, decide_eq_true_eq, decide_eq_true_eq]
    have z6 : zv 6 x y = x * 2 ^ y.toNat := by simp [zv]
    constructor
    · intro q
      refine ⟨hx, hv, .inr (.inr hy6), fun _ => ⟨by omega, by omega, y1⟩, ?_⟩
      rw [z6, ← hap.1, nm_S h (by unfold S; omega)]
    · intro q
      have := q.2.2.2.2
      rw [z6] at this
      omega
  · have hy7 := hyS (by omega) (by omega)
    simp only [bluebellref01_whole.f, Int.reduceEq, reduceIte, Option.bind_some, Bool.false_eq_true, if_false]
    have e6 : bluebellref01_Exact.j3 (k + 1) 7 x y true = some (false, 0) := by simp [bluebellref01_Exact.j3]
    rw [show ((7 : Int) == 7) = true from rfl]
    simp only [bluebellref01_Exact.j2, if_true]
    by_cases x0 : x < 0
    · rw [if_pos x0, e6, decide_false_iff (fun z => by have := z.2.2.2.1 (.inr rfl); omega)]
    rw [if_neg x0]
    by_cases y0 : y < 0
    · rw [if_pos y0, e6, decide_false_iff (fun z => by have := z.2.2.2.1 (.inr rfl); omega)]
    rw [if_neg y0]
    by_cases y1 : y ≤ 15
    rotate_left
    · rw [show decide (y > 15) = true from decide_eq_true (by omega), e6, decide_false_iff (fun z => by have := z.2.2.2.1 (.inr rfl); omega)]
    rw [show decide (y > 15) = false from decide_eq_false (by omega)]
    simp only [bluebellref01_Exact.j3, Bool.false_eq_true, if_false, Int.reduceEq, reduceIte]
    simp only [ap, Int.reduceEq, reduceIte, if_neg y0, if_neg (show ¬ b ≤ y by omega), Option.some.injEq, Prod.mk.injEq] at hap
    have e : x % p = x := Int.emod_eq_of_lt (by omega) (by omega)
    obtain ⟨d0, d1⟩ := div_le_self (show 0 ≤ x by omega) y.toNat
    have e2 : nm p (x / 2 ^ y.toNat) = x / 2 ^ y.toNat := nm_S h (by unfold S; omega)
    rw [e, e2] at hap
    symm
    congr 1; congr 1
    rw [decide_eq_true_eq]
    exact ⟨hx, hv, .inr (.inr hy7), fun _ => ⟨by omega, by omega, y1⟩, by simp [zv, hap.1]⟩
  · obtain ⟨b1, b2, b3⟩ := bits_S hx (hyS (by omega) (by omega))
    simp only [ap, Int.reduceEq, reduceIte, Option.some.injEq, Prod.mk.injEq] at hap
    exact bitw (Go.bits .and .i64 x y) (by omega) (by simp [zv]) (by rw [← hap.1, ← r8, nm_S h b1]) b1
  · obtain ⟨b1, b2, b3⟩ := bits_S hx (hyS (by omega) (by omega))
    simp only [ap, Int.reduceEq, reduceIte, Option.some.injEq, Prod.mk.injEq] at hap
    exact bitw (Go.bits .or .i64 x y) (by omega) (by simp [zv]) (by rw [← hap.1, ← r9, nm_mod h]) b2
  · obtain ⟨b1, b2, b3⟩ := bits_S hx (hyS (by omega) (by omega))
    simp only [ap, Int.reduceEq, reduceIte, Option.some.injEq, Prod.mk.injEq] at hap
    exact bitw (Go.bits .xor .i64 x y) (by omega) (by simp [zv]) (by rw [← hap.1, ← r10, nm_mod h]) b3
  · obtain ⟨b1, b2, b3⟩ := bits_S hx (hyS (by omega) (by omega))
    simp only [ap, Int.reduceEq, reduceIte, Option.some.injEq, Prod.mk.injEq] at hap
    exact bitw (-(Go.bits .xor .i64 x y) - 1) (by omega) (by simp [zv]) (by rw [← hap.1, ← r11, bits_not, nm_wrap h]) (by unfold S at *; omega)
  · exact fin (if x = y then -1 else 0) (by simp [bluebellref01_whole.f, truth_ref]) (by simp [zv]) (by omega) (by omega)
  · exact fin (if x = y then 0 else -1) (by by_cases e : x = y <;> simp [bluebellref01_whole.f, truth_ref, e]) (by simp [zv]) (by omega) (by omega)
  · exact fin (if x < y then -1 else 0) (by simp [bluebellref01_whole.f, truth_ref]) (by simp [zv]) (by omega) (by omega)
  · exact fin (if x ≤ y then -1 else 0) (by simp [bluebellref01_whole.f, truth_ref]) (by simp [zv]) (by omega) (by omega)
  · exact fin (if y < x then -1 else 0) (by simp [bluebellref01_whole.f, truth_ref]) (by simp [zv]) (by omega) (by omega)
  · exact fin (if y ≤ x then -1 else 0) (by simp [bluebellref01_whole.f, truth_ref]) (by simp [zv]) (by omega) (by omega)
  · exact fin (-x) (by simp only [bluebellref01_whole.f, Int.reduceEq, reduceIte]; congr 2; unfold wrap64; omega) (by simp [zv]) (by omega) (by omega)
  · exact fin (-x - 1) (by simp only [bluebellref01_whole.f, Int.reduceEq, reduceIte]; congr 2; unfold wrap64; omega) (by simp [zv]) (by omega) (by omega)
/-- What is exact for words of one length is so for those of another. -/
theorem ap_exact {b p b' p' : Int} (h : Sz b p) (h' : Sz b' p') {op x y v : Int} (h1 : 1 ≤ op) (h2 : op ≤ 19) (hx : S x) (hy : S y) (hap : ap p b op x y = some (v, 0)) (he : Ex op x y v) : ap p' b' op x y = some (v, 0) := by
  obtain ⟨_, hv, _, hsh, hz⟩ := he
  have ex : nm p' x = x := nm_S h' hx
  have ey : nm p' y = y := nm_S h' hy
  have r8 := and_nm h' x y
  have r9 : nm p' (Go.bits .or .i64 x y) = nm p' (bitsum 0 1 1 1 b'.toNat (x % p') (y % p')) := by rw [← or_mod h', nm_mod h']
  have r10 : nm p' (Go.bits .xor .i64 x y) = nm p' (bitsum 0 1 1 0 b'.toNat (x % p') (y % p')) := by rw [← xor_mod h', nm_mod h']
  have r11 := eqv_mod h' x y
  rw [bits_not, nm_wrap h'] at r11
  rw [ex, ey] at r8
  have ev : nm p' v = v := nm_S h' hv
  have hs := sz_le h'
  have hp32 : 65536 ≤ p' ∧ p' ≤ 4294967296 := by rcases h' with ⟨_, rfl⟩ | ⟨_, rfl⟩ | ⟨_, rfl⟩ <;> decide
  have hops : op = 1 ∨ op = 2 ∨ op = 3 ∨ op = 4 ∨ op = 5 ∨ op = 6 ∨ op = 7 ∨ op = 8 ∨ op = 9 ∨ op = 10 ∨ op = 11 ∨ op = 12 ∨ op = 13 ∨ op = 14 ∨ op = 15 ∨ op = 16 ∨ op = 17 ∨ op = 18 ∨ op = 19 := by omega
  unfold S at hx hy
  rcases hops with rfl | rfl | rfl | rfl | rfl | rfl | rfl | rfl | rfl | rfl | rfl | rfl | rfl | rfl | rfl | rfl | rfl | rfl | rfl
  · simp only [zv, Int.reduceEq, reduceIte] at hz; simp only [ap, Int.reduceEq, reduceIte]; rw [hz, ev]
  · by_cases y0 : y = 0
    · simp [ap, y0] at hap
    · simp only [zv, Int.reduceEq, reduceIte] at hz; simp only [ap, Int.reduceEq, reduceIte, if_neg y0]; rw [hz, ev]
  · by_cases y0 : y = 0
    · simp [ap, y0] at hap
    · simp only [zv, Int.reduceEq, reduceIte] at hz; simp only [ap, Int.reduceEq, reduceIte, if_neg y0]; rw [hz, ev]
  · simp only [zv, Int.reduceEq, reduceIte] at hz; simp only [ap, Int.reduceEq, reduceIte]; rw [hz, ev]
  · simp only [zv, Int.reduceEq, reduceIte] at hz; simp only [ap, Int.reduceEq, reduceIte]; rw [hz, ev]
  · have q := hsh (.inl rfl)
    simp only [zv, Int.reduceEq, reduceIte] at hz; simp only [ap, Int.reduceEq, reduceIte, if_neg (show ¬ y < 0 by omega), if_neg (show ¬ b' ≤ y by omega)]; rw [hz, ev]
  · have q := hsh (.inr rfl)
    have e : x % p' = x := Int.emod_eq_of_lt (by omega) (by omega)
    simp only [zv, Int.reduceEq, reduceIte] at hz; simp only [ap, Int.reduceEq, reduceIte, if_neg (show ¬ y < 0 by omega), if_neg (show ¬ b' ≤ y by omega)]; rw [e, hz, ev]
  · simp only [zv, Int.reduceEq, reduceIte] at hz; simp only [ap, Int.reduceEq, reduceIte]; rw [← r8, hz]
  · simp only [zv, Int.reduceEq, reduceIte] at hz; simp only [ap, Int.reduceEq, reduceIte]; rw [← r9, hz, ev]
  · simp only [zv, Int.reduceEq, reduceIte] at hz; simp only [ap, Int.reduceEq, reduceIte]; rw [← r10, hz, ev]
  · simp only [zv, Int.reduceEq, reduceIte] at hz; simp only [ap, Int.reduceEq, reduceIte]; rw [← r11, hz, ev]
  · simp only [zv, Int.reduceEq, reduceIte] at hz; simp only [ap, Int.reduceEq, reduceIte]; rw [hz]
  · simp only [zv, Int.reduceEq, reduceIte] at hz; simp only [ap, Int.reduceEq, reduceIte]; rw [hz]
  · simp only [zv, Int.reduceEq, reduceIte] at hz; simp only [ap, Int.reduceEq, reduceIte]; rw [hz]
  · simp only [zv, Int.reduceEq, reduceIte] at hz; simp only [ap, Int.reduceEq, reduceIte]; rw [hz]
  · simp only [zv, Int.reduceEq, reduceIte] at hz; simp only [ap, Int.reduceEq, reduceIte]; rw [hz]
  · simp only [zv, Int.reduceEq, reduceIte] at hz; simp only [ap, Int.reduceEq, reduceIte]; rw [hz]
  · simp only [zv, Int.reduceEq, reduceIte] at hz; simp only [ap, Int.reduceEq, reduceIte]; rw [hz, ev]
  · simp only [zv, Int.reduceEq, reduceIte] at hz; simp only [ap, Int.reduceEq, reduceIte]; rw [hz, ev]
theorem word_ex_err {op a c b v e : Int} (hap : word_Apply.f op a c b = some (v, e)) (he : ¬ e = 0) : word_Exact.f op a c b = some (false, e) := by
  unfold word_Exact.f; rw [hap]; simp [he]
theorem ref_ex_err {op a c b v e : Int} {k : Nat} (hap : bluebellref01_Apply.f k op a c b = some (v, e)) (he : ¬ e = 0) : bluebellref01_Exact.f k op a c b = some (false, e) := by
  unfold bluebellref01_Exact.f; rw [hap]; simp [he]
theorem exact_same (op a c b : Int) {k : Nat} (hk : 120 ≤ k) : ∃ r, word_Exact.f op a c b = some r ∧ bluebellref01_Exact.f k op a c b = some r := by
  obtain ⟨⟨v, e⟩, r1, r2⟩ := apply_same op a c b (k := k) (by omega)
  by_cases he : e = 0
  rotate_left
  · exact ⟨_, word_ex_err r1 he, ref_ex_err r2 he⟩
  subst he
  rcases sz_or b with ⟨p, h⟩ | ⟨h1, h2⟩
  · rw [apply_val h] at r1
    by_cases o1 : op < 1
    · rw [if_pos o1] at r1; simp at r1
    rw [if_neg o1] at r1
    by_cases o2 : 19 < op
    · rw [if_pos o2] at r1; simp at r1
    rw [if_neg o2] at r1
    exact ⟨_, word_ex h op a c v (by omega) (by omega) r1, ref_ex h op a c v (by omega) (by omega) hk r1⟩
  · rw [apply_bad h1] at r1; simp at r1
end Go.Proofs.Ythllfmbdapdogaa.PWord
