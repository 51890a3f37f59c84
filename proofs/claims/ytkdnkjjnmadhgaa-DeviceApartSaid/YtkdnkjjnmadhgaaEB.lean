import Derived.Test.YtkdnkjjnmadhgaaAA
import Derived.ProofKit
import Derived.OpenShut
import Derived.ChangeOld
import Derived.SizedLaws
import Derived.ChangeSlices
import Derived.Lib.SmallJoins
import Derived.Deep.Slices
import Derived.Deep.Fields
import Derived.ChangeSame
set_option linter.unusedVariables false
set_option linter.unusedSimpArgs false
/-! Parameters, opened to their cells. -/
namespace Go.Proofs.Ytkdnkjjnmadhgaa.Dev
open Go.RowKit Go.Maps
open Go.ChangeShapes Go.WideShapes Go.Deep Go.Joins

section
variable {H : Type} {enc : TypeId × Value → H} {w : World} {base : Nat} {spare : Nat → Bool} {held : Bool}
set_option maxRecDepth 100000 in
/-- A request, as five cells. -/
theorem open_req {fuel : Nat} {cs : List Value} {x : DataW H × List MemPlace} (h : DataW.trod enc Try.prog w base spare held fuel 41 cs = some x) (hl : cs.length = 5) :
    ∃ (b0 b1 b2 b3 : Int) (A : Option Addr) (n c : Nat), cs = [.int .i64 b0, .int .i64 b1, .int .i64 b2, .int .i64 b3, .slice A n c] := by
  obtain ⟨ys, k, _, _, _, hlen, hg⟩ := DataW.trod_struct Try.underlying41 h
  match cs, hl with
  | [c0, c1, c2, c3, c4], _ =>
    match ys, hlen with
    | [y0, y1, y2, y3, y4], _ =>
      have e3 : Try.prog.cellsOf 3 = 1 := by kernel_rfl
      have e39 : Try.prog.cellsOf 39 = 1 := by kernel_rfl
      have t0 : DataW.trod enc Try.prog w base spare held k 3 (([c0, c1, c2, c3, c4].drop 0).take (Try.prog.cellsOf 3)) = some y0 := hg 0 _ rfl
      rw [e3] at t0
      have t0 : DataW.trod enc Try.prog w base spare held k 3 [c0] = some y0 := t0
      have t1 : DataW.trod enc Try.prog w base spare held k 3 (([c0, c1, c2, c3, c4].drop 1).take (Try.prog.cellsOf 3)) = some y1 := hg 1 _ rfl
      rw [e3] at t1
      have t1 : DataW.trod enc Try.prog w base spare held k 3 [c1] = some y1 := t1
      have t2 : DataW.trod enc Try.prog w base spare held k 3 (([c0, c1, c2, c3, c4].drop 2).take (Try.prog.cellsOf 3)) = some y2 := hg 2 _ rfl
      rw [e3] at t2
      have t2 : DataW.trod enc Try.prog w base spare held k 3 [c2] = some y2 := t2
      have t3 : DataW.trod enc Try.prog w base spare held k 3 (([c0, c1, c2, c3, c4].drop 3).take (Try.prog.cellsOf 3)) = some y3 := hg 3 _ rfl
      rw [e3] at t3
      have t3 : DataW.trod enc Try.prog w base spare held k 3 [c3] = some y3 := t3
      have t4 : DataW.trod enc Try.prog w base spare held k 39 (([c0, c1, c2, c3, c4].drop 4).take (Try.prog.cellsOf 39)) = some y4 := hg 4 _ rfl
      rw [e39] at t4
      have t4 : DataW.trod enc Try.prog w base spare held k 39 [c4] = some y4 := t4
      obtain ⟨n0, e0, _⟩ := DataW.trod_int Try.underlying3 t0
      obtain ⟨n1, e1, _⟩ := DataW.trod_int Try.underlying3 t1
      obtain ⟨n2, e2, _⟩ := DataW.trod_int Try.underlying3 t2
      obtain ⟨n3, e4, _⟩ := DataW.trod_int Try.underlying3 t3
      simp at e0 e1 e2 e4
      subst e0 e1 e2 e4
      rcases open_slice Try.underlying39 t4 with ⟨hc, _⟩ | ⟨a, len, cap, _, _, _, _, hc, _⟩
      · simp at hc
        subst hc
        exact ⟨_, _, _, _, none, 0, 0, rfl⟩
      · simp at hc
        subst hc
        exact ⟨_, _, _, _, some a, len, cap, rfl⟩
set_option maxRecDepth 100000 in
/-- A call that comes in by value. -/
theorem open_act {r : Reach} {b0 : Nat} {v : Value} {d : DataW H} {p : List MemPlace}
    (hv : Value.okWide Try.prog w r b0 67 v) (h : DataW.Trod enc Try.prog w base spare held 67 v d p) :
    ∃ (a0 a1 a2 b0 b1 b2 b3 : Int) (A : Option Addr) (n c : Nat), v = .agg #[.int .i64 a0, .int .i64 a1, .int .i64 a2, .int .i64 b0, .int .i64 b1, .int .i64 b2, .int .i64 b3, .slice A n c] := by
  obtain ⟨cs, rfl, hsz⟩ := okWide_struct Try.underlying67 hv
  obtain ⟨l⟩ := cs
  have e67 : Try.prog.cellsOf 67 = 8 := by kernel_rfl
  have e3 : Try.prog.cellsOf 3 = 1 := by kernel_rfl
  have e41 : Try.prog.cellsOf 41 = 5 := by kernel_rfl
  match l, hsz.trans e67 with
  | [c0, c1, c2, c3, c4, c5, c6, c7], _ =>
    obtain ⟨fuel, hf⟩ := h
    obtain ⟨xs, n, _, hx, _, hlen, hg⟩ := DataW.trod_struct Try.underlying67 hf
    match xs, hlen with
    | [y0, y1, y2, y3], _ =>
      have t0 : DataW.trod enc Try.prog w base spare held n 3 (([c0, c1, c2, c3, c4, c5, c6, c7].drop 0).take (Try.prog.cellsOf 3)) = some y0 := hg 0 _ rfl
      rw [e3] at t0
      have t0 : DataW.trod enc Try.prog w base spare held n 3 [c0] = some y0 := t0
      have t1 : DataW.trod enc Try.prog w base spare held n 3 (([c0, c1, c2, c3, c4, c5, c6, c7].drop 1).take (Try.prog.cellsOf 3)) = some y1 := hg 1 _ rfl
      rw [e3] at t1
      have t1 : DataW.trod enc Try.prog w base spare held n 3 [c1] = some y1 := t1
      have t2 : DataW.trod enc Try.prog w base spare held n 3 (([c0, c1, c2, c3, c4, c5, c6, c7].drop 2).take (Try.prog.cellsOf 3)) = some y2 := hg 2 _ rfl
      rw [e3] at t2
      have t2 : DataW.trod enc Try.prog w base spare held n 3 [c2] = some y2 := t2
      have t3 : DataW.trod enc Try.prog w base spare held n 41 (([c0, c1, c2, c3, c4, c5, c6, c7].drop 3).take (Try.prog.cellsOf 41)) = some y3 := hg 3 _ rfl
      rw [e41] at t3
      have t3 : DataW.trod enc Try.prog w base spare held n 41 [c3, c4, c5, c6, c7] = some y3 := t3
      obtain ⟨n0, e0, _⟩ := DataW.trod_int Try.underlying3 t0
      obtain ⟨n1, e1, _⟩ := DataW.trod_int Try.underlying3 t1
      obtain ⟨n2, e2, _⟩ := DataW.trod_int Try.underlying3 t2
      simp at e0 e1 e2
      subst e0 e1 e2
      obtain ⟨b0, b1, b2, b3, A, m, c, e⟩ := open_req t3 rfl
      simp at e
      obtain ⟨rfl, rfl, rfl, rfl, rfl⟩ := e
      exact ⟨_, _, _, _, _, _, _, _, _, _, rfl⟩
end
end Go.Proofs.Ytkdnkjjnmadhgaa.Dev
