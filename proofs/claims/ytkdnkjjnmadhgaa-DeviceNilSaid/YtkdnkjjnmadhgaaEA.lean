import Derived.Test.YtkdnkjjnmadhgaaDZ
/-! DeviceNil: a bus that there is not does nothing. -/
namespace Go.Proofs.Ytkdnkjjnmadhgaa.Dev
open Go.RowKit Go.Maps Go.Lib

set_option maxHeartbeats 2000000 in
set_option maxRecDepth 100000 in
theorem nil_any (w : World) (a0 a1 a2 b0 b1 b2 b3 : Int) (A : Option Addr) (n c : Nat) : Calls Try.prog 9 #[.agg #[.int .i64 a0, .int .i64 a1, .int .i64 a2, .int .i64 b0, .int .i64 b1, .int .i64 b2, .int .i64 b3, .slice A n c]] w fun e w' => e = .returned (.bool true) ∧ Below w.heap.size w w' := by
  obtain ⟨W, hW⟩ : ∃ W, W = w.alloc (.cells #[.int .i64 a0, .int .i64 a1, .int .i64 a2, .int .i64 b0, .int .i64 b1, .int .i64 b2, .int .i64 b3, .slice A n c] 67) := ⟨_, rfl⟩
  have hb : Below w.heap.size w W := by rw [hW]; exact (Below.refl _ _).alloc (Nat.le_refl _) _
  have gb : W.heap[w.heap.size]? = some (.cells #[.int .i64 a0, .int .i64 a1, .int .i64 a2, .int .i64 b0, .int .i64 b1, .int .i64 b2, .int .i64 b3, .slice A n c] 67 (0, 0)) := by rw [hW]; exact alloc_new _ _
  have C22 := Lib.hid (fun w' => nil_disk w' a1)
  have C26 := Lib.hid (fun w' => nil_written w' a1)
  have C27 := Lib.hid (fun w' => nil_next w')
  have C28 := Lib.hid (fun w' => nil_send w' a1 a2 (.int .i64 b0) (.int .i64 b1) (.int .i64 b2) (.int .i64 b3) (.slice A n c))
  have C29 := Lib.hid (fun w' => nil_until w' a2)
  have C20 := Lib.hid (fun w' => nil_pending w')
  have C30 := Lib.hid (fun w' => nil_set w' a1 (.slice A n c))
  have C12 := Lib.hid (fun w' => awake_any w')
  have HB := Lib.hid hb
  have GB := Lib.hid gb
  clear hb gb
  subst hW
  go_enter Try.func9, Try.ntmps9
  go_wp2_with (first
    | (go_at_call 22; (refine (C22.out _).mono ?_); rintro e w' ⟨rfl, hw'⟩; subst hw')
    | (go_at_call 26; (refine (C26.out _).mono ?_); rintro e w' ⟨rfl, hw'⟩; subst hw')
    | (go_at_call 27; (refine (C27.out _).mono ?_); rintro e w' ⟨rfl, hw'⟩; subst hw')
    | (go_at_call 28; (refine (C28.out _).mono ?_); rintro e w' ⟨rfl, hb1⟩; have g1 := (hb1.block _ (blt GB.out)).trans GB.out; have z1 : w'.cell? ⟨w.heap.size, 1, none⟩ = some (.int .i64 a1) := (cell_of g1 1).trans rfl; have z2 : w'.cell? ⟨w.heap.size, 2, none⟩ = some (.int .i64 a2) := (cell_of g1 2).trans rfl; have z7 : w'.cell? ⟨w.heap.size, 7, none⟩ = some (.slice A n c) := (cell_of g1 7).trans rfl; have HB1 := Lib.hid hb1; clear hb1 g1)
    | (go_at_call 29; (refine (C29.out _).mono ?_); rintro e w' ⟨rfl, hw'⟩; subst hw')
    | (go_at_call 20; (refine (C20.out _).mono ?_); rintro e w' ⟨rfl, hw'⟩; subst hw')
    | (go_at_call 30; (refine (C30.out _).mono ?_); rintro e w' ⟨rfl, hw'⟩; subst hw')
    | (go_at_call 12; (refine (C12.out _).mono ?_); rintro e w' ⟨rfl, hb2⟩; have HB2 := Lib.hid hb2; clear hb2))
  go_ret
  exact ⟨rfl, (HB.out.trans (HB1.out.mono HB.out.size)).trans (HB2.out.mono (Nat.le_trans HB.out.size HB1.out.size))⟩
end Go.Proofs.Ytkdnkjjnmadhgaa.Dev
