import Derived.Test.YtkdnkjjnmadhgaaFG
import Derived.Test.YtkdnkjjnmadhgaaFF
/-! Replies are taken from a bus with one line. -/
namespace Go.Proofs.Ytkdnkjjnmadhgaa.Dev
open Go.RowKit Go.Maps Go.Lib

theorem All2.take {α β : Type} {R : α → β → Prop} {l : List α} {m : List β} (h : All2 R l m) (j : Nat) : All2 R (l.take j) (m.take j) := by
  refine ⟨by rw [List.length_take, List.length_take, h.1], fun i x y hx hy => ?_⟩
  by_cases hi : i < j
  · rw [List.getElem?_take_of_lt hi] at hx hy
    exact h.2 i x y hx hy
  · rw [List.getElem?_eq_none (by rw [List.length_take]; omega)] at hx
    cases hx
theorem All2.drop {α β : Type} {R : α → β → Prop} {l : List α} {m : List β} (h : All2 R l m) (j : Nat) : All2 R (l.drop j) (m.drop j) := by
  refine ⟨by rw [List.length_drop, List.length_drop, h.1], fun i x y hx hy => ?_⟩
  rw [List.getElem?_drop] at hx hy
  exact h.2 _ x y hx hy
/-- What Until gives of a bus with one line. -/
def UntilLP (B : Nat) (w : World) (b d : Nat) (bm : BM) (lm : LM) (p : PL) (pend : List Ans) (t : Int) (e : Ending) (w' : World) : Prop :=
  ∃ (v : Sl) (j : Nat), e = .returned (slv v) ∧ j ≤ pend.length ∧ (∀ o ∈ pend.take j, o.2.1 ≤ t) ∧ (∀ o l, pend.drop j = o :: l → t < o.2.1) ∧ HOut B w.heap.size w' (slv v) (bm.rs.take j) (pend.take j) ∧ Touch w w' (· = b) ∧
    ∃ bm', SysL B w' b d bm' lm p ∧ bm'.now = t ∧ bm'.sent = bm.sent ∧ bm'.told = bm.told + j ∧ bm'.rs = bm.rs.drop j ∧ All2 (RepOf B w') bm'.rs (pend.drop j)
theorem linesys_until (w : World) (B b d : Nat) (bm : BM) (lm : LM) (p : PL) (h : SysL B w b d bm lm p) (t : Int) (ht : bm.now ≤ t) (hn : bm.rs.length ≤ 100000) (htold : 0 ≤ bm.told ∧ bm.told ≤ 1000000) (pend : List Ans) (ha : All2 (RepOf B w) bm.rs pend) :
    Calls Try.prog 29 #[ptr b, .int .i64 t] w fun e w' => UntilLP B w b d bm lm p pend t e w' := by
  refine (until_any w B b bm h.bus t ht hn htold).mono ?_
  rintro e w' ⟨v, j, rfl, hj, h1, h2, hrow, htc, vr, hb, _⟩
  have hty : ∀ k, k = b → B ≤ k ∧ ∃ cur ty, w.heap[k]? = some (.cells cur ty (0, 0)) ∧ (ty = 80 ∨ ty = 95) := fun k hk => h.bus.tys (.inl hk)
  have hrep : ∀ x y, RepOf B w x y → RepOf B w' x y := fun x y hh => ⟨hh.1, hh.2.1, hh.2.2.1, hh.2.2.2.1, hh.2.2.2.2.1, hh.2.2.2.2.2.touch5 htc fun k hk => by
    obtain ⟨h3, cur, ty, h4, h5⟩ := hty k hk
    exact ⟨h3, cur, ty, h4, by rcases h5 with rfl | rfl <;> decide⟩⟩
  have hlen : bm.rs.length = pend.length := ha.1
  refine ⟨v, j, rfl, by omega, fun o ho => ?_, fun o l ho => ?_, ⟨?_, ?_⟩, htc, _, ⟨hb, h.line.touch htc hty, h.ds⟩, rfl, rfl, rfl, rfl, (ha.drop j).mono hrep⟩
  · obtain ⟨i, hi, rfl⟩ := List.mem_iff_getElem.1 ho
    have hl := (ha.take j).1
    have hx := (ha.take j).2 i _ _ (List.getElem?_eq_getElem (by omega)) (List.getElem?_eq_getElem hi)
    rw [← hx.2.1]
    exact h1 _ (List.getElem_mem _)
  · have hd := ha.drop j
    rw [ho] at hd
    cases hr : bm.rs.drop j with
    | nil => rw [hr] at hd; have := hd.1; simp at this
    | cons x l' =>
      rw [hr] at hd
      have hx := hd.2 0 x o rfl rfl
      rw [← hx.2.1]
      exact h2 x l' hr
  · have e1 : (bm.rs.take j).length = j := by rw [List.length_take]; omega
    rw [e1]
    exact hrow
  · exact (ha.take j).mono fun x y hh => ⟨hh.1, hh.2.1, hh.2.2.1, hh.2.2.2.2.1, (hrep x y hh).2.2.2.2.2⟩
end Go.Proofs.Ytkdnkjjnmadhgaa.Dev
