/- Plain laws: the reference's Pack; bytes that are the same. -/
import Derived.Test.YthllfmbdapdogaaZPWordBackLaws
import Derived.Test.YthllfmbdapdogaaZPWordRef
import Derived.Test.YthllfmbdapdogaaZPPWordx18
import Derived.Test.YthllfmbdapdogaaZPPWordx20
namespace Go.Proofs.Ythllfmbdapdogaa.PWord
open Go.RowKit Go.Proofs.YthllfmbdapdogaaW.PrintWords Go.Proofs.YthllfmbdapdogaaW.PrintLast Go.Proofs.YthllfmbdapdogaaW.PrintMore
set_option linter.unusedVariables false
set_option linter.unusedSimpArgs false

theorem slice_map (B : List Int) (o n : Nat) (h : o + n ≤ B.length) : (B.take (o + n)).drop o = (List.range n).map fun i => rd B ((o + i : Nat) : Int) := by
  apply List.ext_getElem
  · simp; omega
  · intro i h1 h2
    have hi : i < n := by simpa using h2
    rw [List.getElem_map, List.getElem_range, rd_getElem (by omega), List.getElem_drop, List.getElem_take]
theorem bt_nat (s : ByteArray) {j : Nat} (h : j < s.size) : bt s (j : Int) = (bytesOf s)[j]'(by rw [bytesOf_length]; exact h) := by
  rw [← rd_bytesOf, rd_getElem (by rw [bytesOf_length]; exact h)]
theorem pk_l2 {b p : Int} {n : Nat} (h : Sn b p n) (big : Bool) (B : List Int) (hB : ∀ x ∈ B, 0 ≤ x ∧ x ≤ 255) (m : Nat) (hm : B.length = m * n) (hL : B.length ≤ 1000000) : ∀ (d k r : Nat), r + d = m → d + 100 < k →
    bluebellref01_Pack.l2 k B (wordsL p n big B r) ((r * n : Nat) : Int) b big = some (wordsL p n big B m, 0) := by
  obtain ⟨h1, h2, -, -⟩ := h.n
  intro d
  induction d with
  | zero =>
    intro k r hr hk
    obtain ⟨k, rfl⟩ : ∃ q, k = q + 1 := ⟨k - 1, by omega⟩
    simp only [bluebellref01_Pack.l2]
    rw [show r = m from by omega, if_neg (by omega)]
  | succ d ih =>
    intro k r hr hk
    obtain ⟨k, rfl⟩ : ∃ q, k = q + 1 := ⟨k - 1, by omega⟩
    have hle : (r + 1) * n ≤ m * n := Nat.mul_le_mul_right n (by omega)
    rw [Nat.add_mul, Nat.one_mul] at hle
    have hrm : r ≤ r * n := Nat.le_mul_of_pos_right r (by omega)
    have hwl : (wordsL p n big B r).length = r := by simp [wordsL]
    have e : wrap64 (((r * n : Nat) : Int) + (n : Int)) = ((r * n + n : Nat) : Int) := by
      generalize r * n = z at *
      rw [w_id (by omega) (by omega)]
      omega
    have q0 : ((r * n : Nat) : Int) < (B.length : Int) := Int.ofNat_lt.2 (by omega)
    have q1 : ((r * n : Nat) : Int) ≤ ((r * n + n : Nat) : Int) := Int.ofNat_le.2 (by omega)
    have q2 : ((r * n + n : Nat) : Int) ≤ (B.length : Int) := Int.ofNat_le.2 (by omega)
    have q3 : (wordsL p n big B r).length < 17592186044416 := by rw [hwl]; omega
    have q4 : r * n + n ≤ B.length := by rw [hm]; exact hle
    have q5 : 60 ≤ k := by omega
    have := ih k (r + 1) (by omega) (by omega)
    have h4 := h.n.2.2.2
    simp only [bluebellref01_Pack.l2, bluebellref01_size.f]
    rw [h4, if_pos q0, Option.bind_some, if_pos (Int.natCast_nonneg _), e, if_pos q1, if_pos q2, Int.toNat_natCast, Int.toNat_natCast, slice_map B _ _ q4, join_val h big _ (by simp) (fun x hx => by
      obtain ⟨j, _, rfl⟩ := List.mem_map.1 hx
      exact rd_byte hB _) q5, Option.bind_some, if_pos q3, Option.bind_some, e]
    rw [Nat.add_mul, Nat.one_mul] at this
    unfold wordsL at this ⊢
    rw [List.range_succ, List.map_append] at this
    exact this
theorem row_eq2 (s : ByteArray) (n : Nat) : word_Pack.row s n = ((s.size : Int) :: bytesOf s) ++ List.replicate (nw s n * n - 1 - s.size) 0 := by
  unfold word_Pack.row nw
  rw [List.cons_append]
theorem pk_l1 {b p : Int} {n : Nat} (h : Sn b p n) (big : Bool) {s : ByteArray} (hs : s.size ≤ 255) : ∀ (d k t : Nat), t + d = nw s n * n - 1 - s.size → d + 500 < k →
    bluebellref01_Pack.l1 k (((s.size : Int) :: bytesOf s) ++ List.replicate t 0) b big = some (wordsL p n big (word_Pack.row s n) (nw s n), 0) := by
  obtain ⟨h1, h2, -, -⟩ := h.n
  have hm := nw_mul s h1
  have hrl : (word_Pack.row s n).length = nw s n * n := word_Pack.row_length s n h1
  have hlen : ∀ t, (((s.size : Int) :: bytesOf s) ++ List.replicate t 0).length = s.size + 1 + t := fun t => by simp [bytesOf_length]; omega
  have hnw : nw s n ≤ nw s n * n := Nat.le_mul_of_pos_right _ (by omega)
  have hn0 : ¬ ((n : Int) = 0) := by omega
  intro d
  induction d with
  | zero =>
    intro k t ht hk
    obtain ⟨k, rfl⟩ : ∃ q, k = q + 1 := ⟨k - 1, by omega⟩
    have e : s.size + 1 + t = nw s n * n := by omega
    have := pk_l2 h big (word_Pack.row s n) (row_byte hs n) (nw s n) hrl (by omega) (nw s n) k 0 (by omega) (by omega)
    simp only [bluebellref01_Pack.l1, bluebellref01_size.f]
    rw [h.n.2.2.2]
    simp only [Option.bind_some]
    rw [if_neg hn0, hlen, e, ← Int.natCast_emod, Nat.mul_mod_left, if_neg (by decide), show t = nw s n * n - 1 - s.size from by omega, ← row_eq2]
    simpa [wordsL] using this
  | succ d ih =>
    intro k t ht hk
    obtain ⟨k, rfl⟩ : ∃ q, k = q + 1 := ⟨k - 1, by omega⟩
    have hne : (s.size + 1 + t) % n ≠ 0 := by
      intro e
      have hdm := Nat.div_add_mod (s.size + 1 + t) n
      rw [e, Nat.add_zero] at hdm
      have hlt : n * ((s.size + 1 + t) / n) < n * nw s n := by rw [hdm, Nat.mul_comm n]; omega
      have hq : (s.size + 1 + t) / n < nw s n := Nat.lt_of_mul_lt_mul_left hlt
      have : n * ((s.size + 1 + t) / n + 1) ≤ n * nw s n := Nat.mul_le_mul_left n hq
      rw [Nat.mul_add, Nat.mul_one, hdm, Nat.mul_comm n (nw s n)] at this
      omega
    have hpos : ((s.size + 1 + t : Nat) : Int) % (n : Int) > 0 := by
      rw [← Int.natCast_emod]
      omega
    have q3 : (((s.size : Int) :: bytesOf s) ++ List.replicate t 0).length < 17592186044416 := by rw [hlen]; omega
    have := ih k (t + 1) (by omega) (by omega)
    simp only [bluebellref01_Pack.l1, bluebellref01_size.f]
    rw [h.n.2.2.2]
    simp only [Option.bind_some]
    rw [if_neg hn0, hlen, if_pos hpos, if_pos (by rw [← hlen t]; exact q3), List.append_assoc, ← List.replicate_succ']
    exact this
theorem pk_l0 {b p : Int} {n : Nat} (h : Sn b p n) (big : Bool) {s : ByteArray} (hs : s.size ≤ 255) : ∀ (d k j : Nat), j + d = s.size → d + 600 < k →
    bluebellref01_Pack.l0 k s ((s.size : Int) :: (bytesOf s).take j) (j : Int) b big = some (wordsL p n big (word_Pack.row s n) (nw s n), 0) := by
  obtain ⟨h1, h2, -, -⟩ := h.n
  have hm := nw_mul s h1
  have hbl := bytesOf_length s
  intro d
  induction d with
  | zero =>
    intro k j hj hk
    obtain ⟨k, rfl⟩ : ∃ q, k = q + 1 := ⟨k - 1, by omega⟩
    simp only [bluebellref01_Pack.l0]
    rw [if_neg (by omega), List.take_of_length_le (by omega)]
    have := pk_l1 h big hs (nw s n * n - 1 - s.size) k 0 (by omega) (by omega)
    rw [List.replicate_zero, List.append_nil] at this
    exact this
  | succ d ih =>
    intro k j hj hk
    obtain ⟨k, rfl⟩ : ∃ q, k = q + 1 := ⟨k - 1, by omega⟩
    have hlt : j < (bytesOf s).length := by omega
    have hb := bytesOf_byte s _ (List.getElem_mem hlt)
    have q3 : ((s.size : Int) :: (bytesOf s).take j).length < 17592186044416 := by simp; omega
    have := ih k (j + 1) (by omega) (by omega)
    simp only [bluebellref01_Pack.l0]
    rw [if_pos (by omega), if_pos (Int.natCast_nonneg _), if_pos q3, w_next (by omega), bt_nat s (by omega), w_id hb.1 (by omega), List.cons_append, List.take_append_getElem hlt]
    exact this
theorem pack_ref {b p : Int} {n : Nat} (h : Sn b p n) (big : Bool) {s : ByteArray} (hs : s.size ≤ 255) {k : Nat} (hk : 1000 ≤ k) : bluebellref01_Pack.f k s b big = some (wordsL p n big (word_Pack.row s n) (nw s n), 0) := by
  unfold bluebellref01_Pack.f
  rw [(valid_sz h.sz big).2]
  simp only [Option.bind_some, if_true]
  rw [if_neg (by omega)]
  have := pk_l0 h big hs s.size k 0 (by omega) (by omega)
  rw [List.take_zero] at this
  exact this
theorem eqb_loop (l : List Int) (hl : l.length ≤ 1000000) : ∀ (d k j : Nat), j + d = l.length → d < k → bluebellref00_EqBytes.l0 k l l (j : Int) = some true := by
  intro d
  induction d with
  | zero =>
    intro k j hj hk
    obtain ⟨k, rfl⟩ : ∃ q, k = q + 1 := ⟨k - 1, by omega⟩
    simp only [bluebellref00_EqBytes.l0]
    rw [if_neg (by omega)]
  | succ d ih =>
    intro k j hj hk
    obtain ⟨k, rfl⟩ : ∃ q, k = q + 1 := ⟨k - 1, by omega⟩
    simp only [bluebellref00_EqBytes.l0]
    rw [if_pos (by omega), if_pos (by omega), if_pos (by omega), if_pos trivial, w_next (by omega)]
    exact ih k (j + 1) (by omega) (by omega)
theorem eqb_self (l : List Int) (hl : l.length ≤ 1000000) {k : Nat} (hk : l.length < k) : bluebellref00_EqBytes.f k l l = some true := by
  unfold bluebellref00_EqBytes.f
  rw [if_pos rfl]
  exact eqb_loop l hl l.length k 0 (by omega) hk
end Go.Proofs.Ythllfmbdapdogaa.PWord
