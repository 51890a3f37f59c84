/- Plain laws: the reference's bytes of words. -/
import Derived.Test.YthllfmbdapdogaaZKWordByteLaws
namespace Go.Proofs.Ythllfmbdapdogaa.PWord
open Go.RowKit Go.Proofs.YthllfmbdapdogaaW.PrintWords Go.Proofs.YthllfmbdapdogaaW.PrintLast Go.Proofs.YthllfmbdapdogaaW.PrintMore
set_option linter.unusedVariables false
set_option linter.unusedSimpArgs false

theorem w_next {j : Nat} (h : j ≤ 1000000) : wrap64 ((j : Int) + 1) = ((j + 1 : Nat) : Int) := by unfold wrap64; omega
theorem w_id {x : Int} (h : 0 ≤ x) (h2 : x ≤ 1000000000000000) : wrap64 x = x := by unfold wrap64; omega
/-- The bytes of a word in their order. -/
def spl (n : Nat) (big : Bool) (w : Int) : List Int := (List.range n).map fun i => w / 2 ^ (8 * pos n big i) % 256
theorem spl_length (n : Nat) (big : Bool) (w : Int) : (spl n big w).length = n := by simp [spl]
theorem spl_get {n i : Nat} (big : Bool) (w : Int) (h : i < n) : rd (spl n big w) (i : Int) = w / 2 ^ (8 * pos n big i) % 256 := by
  unfold rd spl
  rw [Int.toNat_natCast]
  simp [List.getD_eq_getElem?_getD, h]
theorem spl_byte (n : Nat) (big : Bool) (w : Int) : ∀ x ∈ spl n big w, 0 ≤ x ∧ x ≤ 255 := by
  intro x hx
  simp only [spl, List.mem_map] at hx
  obtain ⟨i, _, rfl⟩ := hx
  omega
/-- The number that bytes in their order make. -/
def jn (n : Nat) (big : Bool) (L : List Int) : Nat → Nat → Int → Int
  | 0, _, v => v
  | d + 1, j, v => jn n big L d (j + 1) (v * 256 + L.getD (if big = true then j else n - 1 - j) 0)
theorem getD_byte {L : List Int} (hB : ∀ x ∈ L, 0 ≤ x ∧ x ≤ 255) (i : Nat) : 0 ≤ L.getD i 0 ∧ L.getD i 0 ≤ 255 := by
  by_cases h : i < L.length
  · rw [List.getD_eq_getElem?_getD, List.getElem?_eq_getElem h]
    exact hB _ (List.getElem_mem h)
  · rw [List.getD_eq_getElem?_getD, List.getElem?_eq_none (by omega)]; decide
theorem jn_spl {b p : Int} {n : Nat} (h : Sn b p n) (big : Bool) (w : Int) : nm p (jn n big (spl n big w) n 0 0) = nm p w := by
  refine nm_congr h.sz ?_
  rcases h with ⟨_, rfl, rfl⟩ | ⟨_, rfl, rfl⟩ | ⟨_, rfl, rfl⟩ <;> cases big <;> simp [jn, spl, pos, List.range_succ] <;> omega
end Go.Proofs.Ythllfmbdapdogaa.PWord
