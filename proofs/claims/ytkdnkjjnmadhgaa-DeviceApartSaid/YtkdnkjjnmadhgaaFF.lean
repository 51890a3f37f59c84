import Derived.Test.YtkdnkjjnmadhgaaFE
import Derived.Test.YtkdnkjjnmadhgaaDP
import Derived.Test.YtkdnkjjnmadhgaaDV
set_option linter.unusedVariables false
set_option linter.unusedSimpArgs false
/-! A bus with one line is made; its replies are taken. -/
namespace Go.Proofs.Ytkdnkjjnmadhgaa.Dev
open Go.RowKit Go.Maps Go.Lib

/-- A new line. -/
def line0 : PL := ⟨[], 0, 0, [], [], 0⟩
set_option maxHeartbeats 1000000 in
set_option maxRecDepth 100000 in
theorem build_line (w : World) (B : Nat) (hB : B ≤ w.heap.size) : Calls Try.prog 35 #[cfg 4 0] w fun e w' => ∃ d m, e = .returned (.iface 125 (ptr d)) ∧ w.heap.size ≤ d ∧ Below w.heap.size w w' ∧ LRep B w' d m line0 := by
  have C57 := Lib.hid (fun (w' : World) => clone_nil w')
  obtain ⟨W, hW⟩ : ∃ W, W = w.alloc (.cells #[.int .i64 4, .int .i64 0, nilSl, nilSl, nilSl, nilSl] 54) := ⟨_, rfl⟩
  have hb : Below w.heap.size w W := by rw [hW]; exact (Below.refl _ _).alloc (Nat.le_refl _) _
  go_enter Try.func35, Try.ntmps35
  go_upto_region 16 with (fail)
  rw [← hW]
  have gb : W.heap[w.heap.size]? = some (.cells #[.int .i64 4, .int .i64 0, nilSl, nilSl, nilSl, nilSl] 54 (0, 0)) := by rw [hW]; exact alloc_new _ _
  have z5 : W.cell? ⟨w.heap.size, 5, none⟩ = some nilSl := (cell_of gb 5).trans rfl
  have HB := Lib.hid hb
  clear gb hW hb
  go_wp2_with (go_at_call 57; (with_reducible refine (C57.out _).mono ?_); rintro e w' ⟨rfl, hw'⟩; subst hw')
  go_ret
  have hn : (w'.alloc (.cells #[nilSl, .int .i64 0, .int .i64 0, nilSl, nilSl, .int .i64 0] 128)).heap[w'.heap.size]? = some (.cells #[nilSl, .int .i64 0, .int .i64 0, nilSl, nilSl, .int .i64 0] 128 (0, 0)) := alloc_new _ _
  exact ⟨w'.heap.size, ⟨(none, 0, 0), (none, 0, 0), (none, 0, 0), []⟩, rfl, HB.out.size, HB.out.alloc HB.out.size _, ⟨Nat.le_trans hB HB.out.size, hn, RowO.none_ _, RowO.none_ _, All2.nil_, Held.nil_⟩⟩
/-- A bus with one line is made. -/
theorem new_line (w : World) (g off : Nat) (hl : OneCfg w g off 4 0) :
    Calls Try.prog 23 #[.slice (some ⟨g, off, none⟩) 1 1] w fun e w' => e = .returned (.tuple #[ptr w.heap.size, .int .i64 0]) ∧ Below w.heap.size w w' ∧ ∃ d bm lm, SysL w.heap.size w' w.heap.size d bm lm line0 ∧ bm.now = 0 ∧ bm.sent = 0 ∧ bm.told = 0 ∧ bm.rs = [] := by
  refine (new_one w g off 4 0 hl 125 (fun W v => ∃ d dm, v = .iface 125 (ptr d) ∧ LRep w.heap.size W d dm line0) ?_ ?_).mono ?_
  · intro W' hW'
    refine (build_line W' w.heap.size hW'.size).mono ?_
    rintro e w'' ⟨d, m, rfl, _, hb, hd⟩
    exact ⟨d, rfl, hb, d, m, rfl, hd⟩
  · rintro W' W'' v cur ⟨d, dm, rfl, hd⟩ hc hk
    refine ⟨d, dm, rfl, hd.keep fun k hk1 ho => hk k hk1 fun e => ?_⟩
    subst e
    rcases ho with ho | ho | ⟨cur', ty, hc', ht⟩
    · obtain ⟨_, cur', ty, hc', ht⟩ := hd.tys ho
      rw [hc] at hc'
      simp at hc'
      obtain ⟨_, rfl⟩ := hc'
      simp at ht
    · exact Nat.lt_irrefl _ ho
    · rw [hc] at hc'
      simp at hc'
      obtain ⟨_, rfl⟩ := hc'
      simp at ht
  · rintro e w' ⟨rfl, vd, v, hb, ⟨d, dm, rfl, hd⟩, hbel⟩
    exact ⟨rfl, hbel, d, _, dm, ⟨hb, hd, rfl⟩, rfl, rfl, rfl, rfl⟩
end Go.Proofs.Ytkdnkjjnmadhgaa.Dev
