/- Words add, subtract and multiply as whole numbers do, normed; a quotient times the divisor with what is left is the word. No condition on the input. -/
import Derived.Test.YthllfmbdapdogaaWordRef
import Derived.Test.YthllfmbdapdogaaPWordx9
namespace Go.Proofs.Ythllfmbdapdogaa.Pure
open Go.RowKit Go.Proofs.Ythllfmbdapdogaa.PWord Go.Proofs.YthllfmbdapdogaaW.PrintWords Go.Proofs.YthllfmbdapdogaaW.PrintLast
set_option linter.unusedVariables false
set_option linter.unusedSimpArgs false

theorem of_val {b p : Int} (h : Sz b p) (op x y : Int) (h1 : 1 ≤ op) (h2 : op ≤ 19) : bluebelllaw01_func2_of.f b op x y = (ap p b op (nm p x) (nm p y)).map (·.1) := by
  unfold bluebelllaw01_func2_of.f
  rw [apply_val h, if_neg (by omega), if_neg (by omega)]
  cases ap p b op (nm p x) (nm p y) <;> rfl
theorem of_add {b p : Int} (h : Sz b p) (x y : Int) : bluebelllaw01_func2_of.f b 4 (nm p x) (nm p y) = some (nm p (x + y)) := by
  rw [of_val h _ _ _ (by omega) (by omega), nm_nm h, nm_nm h]
  simp only [ap, Int.reduceEq, if_false, if_true, reduceIte, Option.map_some]
  congr 1
  exact nm_congr h (by rw [Int.add_emod, nm_emod h, nm_emod h, ← Int.add_emod])
theorem of_sub {b p : Int} (h : Sz b p) (x y : Int) : bluebelllaw01_func2_of.f b 5 (nm p x) (nm p y) = some (nm p (x - y)) := by
  rw [of_val h _ _ _ (by omega) (by omega), nm_nm h, nm_nm h]
  simp only [ap, Int.reduceEq, if_false, if_true, reduceIte, Option.map_some]
  congr 1
  exact nm_congr h (by rw [Int.sub_emod, nm_emod h, nm_emod h, ← Int.sub_emod])
theorem of_mul {b p : Int} (h : Sz b p) (x y : Int) : bluebelllaw01_func2_of.f b 1 (nm p x) (nm p y) = some (nm p (x * y)) := by
  rw [of_val h _ _ _ (by omega) (by omega), nm_nm h, nm_nm h]
  simp only [ap, Int.reduceEq, if_false, if_true, reduceIte, Option.map_some]
  congr 1
  exact nm_congr h (by rw [Int.mul_emod, nm_emod h, nm_emod h, ← Int.mul_emod])
theorem of_neg {b p : Int} (h : Sz b p) (x y : Int) : bluebelllaw01_func2_of.f b 18 (nm p x) y = some (nm p (-(nm p x))) := by
  rw [of_val h _ _ _ (by omega) (by omega), nm_nm h]
  simp only [ap, Int.reduceEq, if_false, if_true, reduceIte, Option.map_some]
theorem of_div {b p : Int} (h : Sz b p) (x y : Int) (hy : ¬ nm p y = 0) : bluebelllaw01_func2_of.f b 2 (nm p x) (nm p y) = some (nm p ((nm p x).tdiv (nm p y))) := by
  rw [of_val h _ _ _ (by omega) (by omega), nm_nm h, nm_nm h]
  simp only [ap, Int.reduceEq, if_false, if_true, reduceIte, Option.map_some, if_neg hy]
theorem of_rem {b p : Int} (h : Sz b p) (x y : Int) (hy : ¬ nm p y = 0) : bluebelllaw01_func2_of.f b 3 (nm p x) (nm p y) = some (nm p ((nm p x).tmod (nm p y))) := by
  rw [of_val h _ _ _ (by omega) (by omega), nm_nm h, nm_nm h]
  simp only [ap, Int.reduceEq, if_false, if_true, reduceIte, Option.map_some, if_neg hy]
theorem WordRings : bluebelllaw01_WordRings.Pure := by
  intro a c d b _ _ _ _
  refine ⟨110, ?_⟩
  unfold bluebelllaw01_WordRings.f bluebellref01_Word.f
  rcases sz_or b with ⟨p, h⟩ | ⟨h1, h2⟩
  rotate_left
  · simp [h2]
  have ha := fun k (hk : 60 ≤ k) => awake_ge hk
  have hn := fun v => norm_ge h (show 40 ≤ 110 by omega) v
  rw [bits_sz h]
  simp only [Option.bind_some, if_true, hn, of_add h, of_mul h]
  rw [if_pos (by rw [Int.add_comm]), if_pos (by rw [Int.mul_comm])]
  rw [of_sub h]
  simp only [Option.bind_some]
  rw [show (nm p (a + c - c) != nm p a) = false from by rw [Int.add_sub_cancel]; simp]
  simp only [bluebelllaw01_WordRings.j0]
  rw [if_neg (by decide)]
  simp only [of_add h, of_mul h, Option.bind_some]
  rw [if_pos (by rw [Int.add_assoc])]
  rw [show (nm p (a * c * d) != nm p (a * (c * d))) = false from by rw [Int.mul_assoc]; simp]
  simp only [bluebelllaw01_WordRings.j1]
  rw [if_neg (by decide)]
  simp only [of_add h, of_mul h, Option.bind_some]
  rw [if_pos (by rw [Int.mul_add])]
  rw [of_neg h]
  simp only [Option.bind_some]
  rw [of_add h]
  simp only [Option.bind_some]
  rw [show (nm p (a + -nm p a) != 0) = false from by
    have : nm p (a + -nm p a) = nm p 0 := nm_congr h (by rw [Int.add_emod, ← nm_emod h a, ← Int.add_emod, Int.add_right_neg])
    rw [this, nm_zero h]; rfl]
  simp only [bluebelllaw01_WordRings.j2]
  rw [if_neg (by decide)]
  by_cases c0 : nm p c = 0
  · rw [if_pos c0, ha _ (by omega)]; rfl
  · rw [if_neg c0, of_div h _ _ c0]
    simp only [Option.bind_some]
    rw [of_mul h]
    simp only [Option.bind_some]
    rw [of_rem h _ _ c0]
    simp only [Option.bind_some]
    rw [of_add h]
    simp only [Option.bind_some]
    have e : nm p (c * (nm p a).tdiv (nm p c) + (nm p a).tmod (nm p c)) = nm p a := by
      have := Int.mul_tdiv_add_tmod (nm p a) (nm p c)
      have e2 : nm p (c * (nm p a).tdiv (nm p c) + (nm p a).tmod (nm p c)) = nm p (nm p c * (nm p a).tdiv (nm p c) + (nm p a).tmod (nm p c)) := nm_congr h (by rw [Int.add_emod, Int.mul_emod, ← nm_emod h c, ← Int.mul_emod, ← Int.add_emod])
      rw [e2, this, nm_nm h]
    rw [if_pos e, ha _ (by omega)]; rfl

end Go.Proofs.Ythllfmbdapdogaa.Pure
