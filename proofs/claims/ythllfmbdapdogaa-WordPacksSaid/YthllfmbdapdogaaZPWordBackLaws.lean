/- Plain laws: a text packed into words comes back; words through bytes come back. -/
import Derived.Test.YthllfmbdapdogaaZPWordText
import Derived.Test.YthllfmbdapdogaaZPPWordx7
namespace Go.Proofs.Ythllfmbdapdogaa.PWord
open Go.RowKit Go.Proofs.YthllfmbdapdogaaW.PrintWords Go.Proofs.YthllfmbdapdogaaW.PrintLast Go.Proofs.YthllfmbdapdogaaW.PrintMore
set_option linter.unusedVariables false
set_option linter.unusedSimpArgs false

theorem bytesOf_byte (s : ByteArray) : ∀ x ∈ bytesOf s, 0 ≤ x ∧ x ≤ 255 := by
  intro x hx
  obtain ⟨c, _, rfl⟩ := List.mem_map.1 hx
  have := c.toNat_lt
  omega
theorem row_byte {s : ByteArray} (hs : s.size ≤ 255) (n : Nat) : ∀ x ∈ word_Pack.row s n, 0 ≤ x ∧ x ≤ 255 := by
  intro x hx
  unfold word_Pack.row at hx
  rcases List.mem_cons.1 hx with rfl | hx
  · omega
  rcases List.mem_append.1 hx with hx | hx
  · exact bytesOf_byte s x hx
  · have := (List.mem_replicate.1 hx).2
    omega
def nw (s : ByteArray) (n : Nat) : Nat := (s.size + n) / n
theorem nw_mul (s : ByteArray) {n : Nat} (hn : 2 ≤ n) : s.size + 1 ≤ nw s n * n ∧ nw s n * n ≤ s.size + n := by
  unfold nw
  have h1 := Nat.div_add_mod (s.size + n) n
  have h2 := Nat.mod_lt (s.size + n) (show 0 < n by omega)
  rw [Nat.mul_comm] at h1
  omega
theorem pack_word {b p : Int} {n : Nat} (h : Sn b p n) (big : Bool) {s : ByteArray} (hs : s.size ≤ 255) {k : Nat} (hk : 300 ≤ k) : word_Pack.f k s b big = some (wordsL p n big (word_Pack.row s n) (nw s n), 0) := by
  obtain ⟨h1, h2, h3, h4⟩ := h.n
  have hm := nw_mul s h1
  have hlen : (word_Pack.row s n).length = nw s n * n := word_Pack.row_length s n h1
  have hw := words_word h big (word_Pack.row s n) (row_byte hs n) (by omega) (k := k) (by omega)
  rw [hlen, Nat.mul_mod_left, if_pos rfl, Nat.mul_div_cancel _ (by omega)] at hw
  unfold word_Pack.f
  rw [(valid_sz h.sz big).1]
  simp only [Option.bind_some, if_true]
  rw [if_pos hs]
  clear hlen hm h4 h1 h2 h3
  rcases h with ⟨rfl, rfl, rfl⟩ | ⟨rfl, rfl, rfl⟩ | ⟨rfl, rfl, rfl⟩
  · rw [if_pos (by decide)]; exact hw
  · rw [if_neg (by decide), if_pos (by decide)]; exact hw
  · rw [if_neg (by decide), if_neg (by decide), if_pos (by decide)]; exact hw
end Go.Proofs.Ythllfmbdapdogaa.PWord
