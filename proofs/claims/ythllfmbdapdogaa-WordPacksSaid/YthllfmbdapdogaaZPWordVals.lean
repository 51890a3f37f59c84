/- Plain laws: what word.Apply and the reference's Apply give, by one formula. -/
import Derived.Test.YthllfmbdapdogaaZPWordBitsLaws
import Derived.Test.YthllfmbdapdogaaZPPWordx5
namespace Go.Proofs.Ythllfmbdapdogaa.PWord
open Go.RowKit Go.Proofs.YthllfmbdapdogaaW.PrintWords Go.Proofs.YthllfmbdapdogaaW.PrintLast Go.Proofs.YthllfmbdapdogaaW.PrintMore
set_option linter.unusedVariables false

theorem norm_ge {b p : Int} (h : Sz b p) {k : Nat} (hk : 40 ≤ k) (v : Int) : bluebellref01_norm.f k v b = some (nm p v) := at_rounds (fun k => bluebellref01_norm.mono v b k) hk (norm_ref h v)
theorem unsigned_ge {b p : Int} (h : Sz b p) {k : Nat} (hk : 40 ≤ k) (v : Int) : bluebellref01_unsigned.f k v b = some (v % p) := at_rounds (fun k => bluebellref01_unsigned.mono v b k) hk (unsigned_ref h v)

theorem bits_sz {b p : Int} (h : Sz b p) : bluebellref01_Bits.f b = some true := by
  rcases h with ⟨rfl, _⟩ | ⟨rfl, _⟩ | ⟨rfl, _⟩ <;> rfl
theorem sized_sz {b p : Int} (h : Sz b p) : word_sized.f b = some true := by
  rcases h with ⟨rfl, _⟩ | ⟨rfl, _⟩ | ⟨rfl, _⟩ <;> rfl
theorem sz_or (b : Int) : (∃ p, Sz b p) ∨ (word_sized.f b = some false ∧ bluebellref01_Bits.f b = some false) := by
  by_cases h1 : b = 16
  · exact .inl ⟨_, .inl ⟨h1, rfl⟩⟩
  by_cases h2 : b = 24
  · exact .inl ⟨_, .inr (.inl ⟨h2, rfl⟩)⟩
  by_cases h3 : b = 32
  · exact .inl ⟨_, .inr (.inr ⟨h3, rfl⟩)⟩
  · refine .inr ⟨?_, ?_⟩
    · unfold word_sized.f; rw [if_neg h1, if_neg h2]; simp [h3]
    · unfold bluebellref01_Bits.f; rw [if_neg h1, if_neg h2]; simp [h3]
end Go.Proofs.Ythllfmbdapdogaa.PWord
