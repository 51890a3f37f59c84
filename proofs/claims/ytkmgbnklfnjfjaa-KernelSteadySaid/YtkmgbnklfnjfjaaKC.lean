import Derived.Test.YtkmgbnklfnjfjaaKB
/-! (*queue).ids: the numbers of the packets of a queue. -/
namespace Go.Proofs.Ytkmgbnklfnjfjaa.Ker
open Go.RowKit Go.Maps

set_option maxHeartbeats 400000 in
set_option maxRecDepth 100000 in
theorem ids_any (w : World) (base : Nat) (qb qo : Nat) (v : Value) (bs : List Nat) (idOf : Nat → Int) (hq : w.cell? ⟨qb, qo, none⟩ = some v)
    (hown : w.ownsRow base 84 1 v bs.length (bs.map ptr)) (hn : bs.length ≤ 100000) (hp : ∀ x ∈ bs, w.cell? ⟨x, 0, none⟩ = some (.int .i64 (idOf x))) :
    Calls Try.prog 32 #[.pointer (some ⟨qb, qo, none⟩), .func (.func 33) #[] #[]] w fun e w' => ∃ v', e = .returned v' ∧ Below w.heap.size w w' ∧ w'.ownsRow w.heap.size 3 1 v' bs.length (bs.map fun b => .int .i64 (idOf b)) := by
  obtain ⟨i0, hi, hz0, hz1, hz2⟩ := info_parts info3
  obtain ⟨va, vc, rfl⟩ := own_form hown
  have hcell : Hid (∀ j, j < bs.length → ∃ g x, va = some ⟨g, 0, none⟩ ∧ bs[j]? = some x ∧ g < w.heap.size ∧ x < w.heap.size ∧ w.cell? ⟨g, j, none⟩ = some (ptr x) ∧ w.cell? ⟨x, 0, none⟩ = some (.int .i64 (idOf x))) := by
    intro j hj
    obtain ⟨g, cap, he, hbg, hnc, hcm, cur, hg, hsz, htk, hcell⟩ := own_cell hown (by omega)
    have h1 := hcell j hj
    simp only [List.getElem?_map, List.getElem?_eq_getElem hj, Option.map_some] at h1
    have h2 := hp bs[j] (List.getElem_mem hj)
    simp at he
    exact ⟨g, bs[j], he.1, List.getElem?_eq_getElem hj, blt hg, cell_lt h2, h1, h2⟩
  clear hown hp
  go_enter Try.func32, Try.ntmps32
  go_wp2
  go_loopw [5, 7, 13] (fun u _ i wr => ∃ j : Nat, j ≤ bs.length ∧ i = .int .i64 j ∧ wr.ownsRow w.heap.size 3 1 u j ((bs.take j).map fun b => .int .i64 (idOf b)) ∧ Below w.heap.size w wr)
    (fun _ _ i _ => bs.length - (intOf i).toNat)
  case atStart => exact ⟨0, Nat.zero_le _, rfl, ⟨by simp, .inl ⟨rfl, rfl⟩⟩, Below.refl _ _⟩
  case round =>
    obtain ⟨j, hj, rfl, hown, hbel⟩ := hrel
    by_cases hlt : j < bs.length
    · obtain ⟨g, x, rfl, hx, hgl, hxl, h1, h2⟩ := hcell.out j hlt
      have h1r : wr.cell? ⟨g, j, none⟩ = some (ptr x) := (hbel.cell hgl).trans h1
      have C := Lib.hid (number_any wr x (idOf x) ((hbel.cell hxl).trans h2))
      have HX := Lib.hid hx
      obtain ⟨ua, uc, rfl⟩ := own_form hown
      have HB := Lib.hid hbel
      have hws := hbel.size
      clear hx h1 h2 hbel
      go_wp2_with (first | (go_at_call 33; (with_reducible refine C.out.mono ?_); rintro e w' ⟨rfl, rfl⟩) | (at_builtin; refine wpList_append_own _ rfl _ _ 23 rfl w.heap.size 3 i0 (.int .i64 0) 1 8 Try.underlying23 hi hz0 hz1 hz2 rfl (by decide) (.slice ua j uc) j _ rfl (hown.alloc _) ⟨wr.heap.size, 0, none⟩ 1 1 [.int .i64 (idOf x)] rfl rfl (cell_one_new _ _ _) (by simp [Value.oneCell']) (by unfold maxLen; omega) (by omega) (by simp; omega) ?_; intro v' w1 hown' hgrow hnil))
      go_roundw
      case rel =>
        refine ⟨j + 1, by omega, by go_num, ?_, (HB.out.alloc hws _).grown hgrow (by simp; omega) (fun k hk => (own_block hown hk).1)⟩
        rw [List.take_succ_eq_append_getElem hlt, List.map_append]
        have : bs[j] = x := by simpa [List.getElem?_eq_getElem hlt] using HX.out
        simpa [this] using hown'
      case measure => simp [intOf]; omega
    · have : j = bs.length := by omega
      subst this
      go_wp2
      go_ret
      refine ⟨_, rfl, hbel, ?_⟩
      simpa using hown
end Go.Proofs.Ytkmgbnklfnjfjaa.Ker
