import Derived.Test.YtkdnkjjnmadhgaaFU
/-! DeviceLines: every input. -/
namespace Go.Proofs.Ytkdnkjjnmadhgaa.Dev
open Go.RowKit Go.Maps
open Go.ChangeShapes Go.WideShapes Go.Deep Go.Joins

theorem lines_any (w : World) (A : Option Addr) (c : Nat) (ms : List (Sl × List Int)) (rc : Int) (hA : 0 < ms.length → ∃ g off, A = some ⟨g, off, none⟩ ∧ g < w.heap.size ∧ ∀ j m, ms[j]? = some m → w.cell? ⟨g, off + j, none⟩ = some (slv m.1)) (hH : ∀ m ∈ ms, Held w.heap.size 5 w m.1 (bytes m.2)) :
    Calls Try.prog 6 #[.slice A ms.length c, .int .i64 rc] w fun e w' => e = .returned (.bool true) ∧ Below w.heap.size w w' := by
  by_cases hb : 40 < ms.length ∨ rc < 0 ∨ 60 < rc
  · exact lines_bad w A ms.length c rc hb
  · obtain ⟨k, rfl⟩ : ∃ k : Nat, rc = k := ⟨rc.toNat, by omega⟩
    exact lines_good w A c ms k (by omega) (by omega) hA hH
section
variable {H : Type} {enc : TypeId × Value → H} {w : World} {base : Nat} {spare : Nat → Bool} {held : Bool}
set_option maxRecDepth 100000 in
theorem open_rows2 {r : Reach} {b0 : Nat} {v : Value} {d : DataW H} {p : List MemPlace} (hv : Value.okWide Try.prog w r b0 52 v) (h : DataW.Trod enc Try.prog w base spare held 52 v d p) :
    ∃ (A : Option Addr) (c : Nat) (ms : List (Sl × List Int)), v = .slice A ms.length c ∧ (0 < ms.length → ∃ g off, A = some ⟨g, off, none⟩ ∧ g < w.heap.size ∧ ∀ j m, ms[j]? = some m → w.cell? ⟨g, off + j, none⟩ = some (slv m.1)) ∧ ∀ m ∈ ms, Held w.heap.size 5 w m.1 (bytes m.2) := by
  obtain ⟨a, n, c, hv2⟩ := okWide_slice Try.underlying52 hv
  subst hv2
  obtain ⟨fuel, hf⟩ := h
  obtain ⟨A, c', ms, hcs, h1, h2⟩ := open_rows hf
  have e : Value.slice a n c = .slice A ms.length c' := by simpa [Value.cells] using hcs
  exact ⟨A, c', ms, e, h1, h2⟩
end
end Go.Proofs.Ytkdnkjjnmadhgaa.Dev
