import Derived.Test.YtkdnkjjnmadhgaaHD
import Derived.Test.YtkdnkjjnmadhgaaGK
set_option linter.unusedVariables false
set_option linter.unusedSimpArgs false
/-! Requests that a bus refuses, at each kind of device. (Printed by mk_he.py.) -/
namespace Go.Proofs.Ytkdnkjjnmadhgaa.Dev
open Go.RowKit Go.Maps Go.Lib

set_option maxHeartbeats 4000000 in
set_option maxRecDepth 100000 in
/-- Too early. -/
theorem send_late_l (w : World) (B b d : Nat) (m : BM) (h : BRep B w b m) (dev at_ : Int) (hdev : 1 ≤ dev) (hd : m.ds[(dev - 1).toNat]? = some (.iface 125 (ptr d))) (pk do_ a_ b_ : Int) (dv : Sl) (hat : at_ < m.now) :
    Calls Try.prog 28 #[ptr b, .int .i64 dev, .int .i64 at_, .agg #[.int .i64 pk, .int .i64 do_, .int .i64 a_, .int .i64 b_, slv dv]] w fun e w' => e = .returned (.int .i64 1) ∧ Below w.heap.size w w' := by
  have C33 := Lib.hid (fun (w' : World) (h' : BRep B w' b m) => device_some w' B b m h' dev hdev _ hd)
  have C99 := Lib.hid (fun (w' : World) (v : Value) => line_has w' v do_)
  have m1 := fun (w' : World) => meth_has125 (ptr d) w'
  have e1 := fun (args : Array Value) (w' : World) => enters_of Try.func99 (by decide) rfl args w'
  have t1 : decide (at_ < m.now) = true := by simpa using hat
  obtain ⟨W, hW⟩ : ∃ W, W = w.alloc (.cells #[.int .i64 pk, .int .i64 do_, .int .i64 a_, .int .i64 b_, slv dv] 41) := ⟨_, rfl⟩
  have hbw : Below w.heap.size w W := by rw [hW]; exact (Below.refl _ _).alloc (Nat.le_refl _) _
  have gb : W.heap[w.heap.size]? = some (.cells #[.int .i64 pk, .int .i64 do_, .int .i64 a_, .int .i64 b_, slv dv] 41 (0, 0)) := by rw [hW]; exact alloc_new _ _
  have hr : BRep B W b m := h.keep fun k hl _ => hbw.block k hl
  go_enter Try.func28, Try.ntmps28
  go_upto_region 3 with (fail)
  rw [← hW]
  have z1 : W.cell? ⟨w.heap.size, 1, none⟩ = some (.int .i64 do_) := (cell_of gb 1).trans rfl
  have z4 : W.cell? ⟨w.heap.size, 4, none⟩ = some (slv dv) := (cell_of gb 4).trans rfl
  obtain ⟨c0, c1, c2, c3, c4⟩ := hr.all
  have HR := Lib.hid hr
  have HB := Lib.hid hbw
  clear hr h gb hbw hW hd hdev hat
  go_wp2_with (first | (go_at_call 33; (refine (C33.out _ HR.out).mono ?_); rintro e w1 ⟨rfl, hw1⟩; (obtain rfl : W = w1 := hw1.symm)) | (go_at_call 99; (refine (C99.out _ _).mono ?_); rintro e w1 ⟨rfl, hw1⟩; (obtain rfl : W = w1 := hw1.symm)))
  go_ret
  exact ⟨rfl, HB.out⟩
set_option maxHeartbeats 4000000 in
set_option maxRecDepth 100000 in
/-- Too late. -/
theorem send_far_l (w : World) (B b d : Nat) (m : BM) (h : BRep B w b m) (dev at_ : Int) (hdev : 1 ≤ dev) (hd : m.ds[(dev - 1).toNat]? = some (.iface 125 (ptr d))) (pk do_ a_ b_ : Int) (dv : Sl) (hat : ¬ at_ < m.now) (hat1 : 1000000000 < at_) :
    Calls Try.prog 28 #[ptr b, .int .i64 dev, .int .i64 at_, .agg #[.int .i64 pk, .int .i64 do_, .int .i64 a_, .int .i64 b_, slv dv]] w fun e w' => e = .returned (.int .i64 1) ∧ Below w.heap.size w w' := by
  have C33 := Lib.hid (fun (w' : World) (h' : BRep B w' b m) => device_some w' B b m h' dev hdev _ hd)
  have C99 := Lib.hid (fun (w' : World) (v : Value) => line_has w' v do_)
  have m1 := fun (w' : World) => meth_has125 (ptr d) w'
  have e1 := fun (args : Array Value) (w' : World) => enters_of Try.func99 (by decide) rfl args w'
  have t1 : decide (at_ < m.now) = false := by simpa using hat
  have t2 : decide (1000000000 < at_) = true := by simpa using hat1
  obtain ⟨W, hW⟩ : ∃ W, W = w.alloc (.cells #[.int .i64 pk, .int .i64 do_, .int .i64 a_, .int .i64 b_, slv dv] 41) := ⟨_, rfl⟩
  have hbw : Below w.heap.size w W := by rw [hW]; exact (Below.refl _ _).alloc (Nat.le_refl _) _
  have gb : W.heap[w.heap.size]? = some (.cells #[.int .i64 pk, .int .i64 do_, .int .i64 a_, .int .i64 b_, slv dv] 41 (0, 0)) := by rw [hW]; exact alloc_new _ _
  have hr : BRep B W b m := h.keep fun k hl _ => hbw.block k hl
  go_enter Try.func28, Try.ntmps28
  go_upto_region 3 with (fail)
  rw [← hW]
  have z1 : W.cell? ⟨w.heap.size, 1, none⟩ = some (.int .i64 do_) := (cell_of gb 1).trans rfl
  have z4 : W.cell? ⟨w.heap.size, 4, none⟩ = some (slv dv) := (cell_of gb 4).trans rfl
  obtain ⟨c0, c1, c2, c3, c4⟩ := hr.all
  have HR := Lib.hid hr
  have HB := Lib.hid hbw
  clear hr h gb hbw hW hd hdev hat hat1
  go_wp2_with (first | (go_at_call 33; (refine (C33.out _ HR.out).mono ?_); rintro e w1 ⟨rfl, hw1⟩; (obtain rfl : W = w1 := hw1.symm)) | (go_at_call 99; (refine (C99.out _ _).mono ?_); rintro e w1 ⟨rfl, hw1⟩; (obtain rfl : W = w1 := hw1.symm)))
  go_ret
  exact ⟨rfl, HB.out⟩
set_option maxHeartbeats 4000000 in
set_option maxRecDepth 100000 in
/-- It has no such request. -/
theorem send_what_l (w : World) (B b d : Nat) (m : BM) (h : BRep B w b m) (dev at_ : Int) (hdev : 1 ≤ dev) (hd : m.ds[(dev - 1).toNat]? = some (.iface 125 (ptr d))) (pk do_ a_ b_ : Int) (dv : Sl) (hat : ¬ at_ < m.now) (hat1 : ¬ 1000000000 < at_) (hdo : ¬ (1 ≤ do_ ∧ do_ ≤ 2)) :
    Calls Try.prog 28 #[ptr b, .int .i64 dev, .int .i64 at_, .agg #[.int .i64 pk, .int .i64 do_, .int .i64 a_, .int .i64 b_, slv dv]] w fun e w' => e = .returned (.int .i64 1) ∧ Below w.heap.size w w' := by
  have C33 := Lib.hid (fun (w' : World) (h' : BRep B w' b m) => device_some w' B b m h' dev hdev _ hd)
  have C99 := Lib.hid (fun (w' : World) (v : Value) => line_has w' v do_)
  have m1 := fun (w' : World) => meth_has125 (ptr d) w'
  have e1 := fun (args : Array Value) (w' : World) => enters_of Try.func99 (by decide) rfl args w'
  have t1 : decide (at_ < m.now) = false := by simpa using hat
  have t2 : decide (1000000000 < at_) = false := by simpa using hat1
  rw [decide_eq_false hdo] at C99
  obtain ⟨W, hW⟩ : ∃ W, W = w.alloc (.cells #[.int .i64 pk, .int .i64 do_, .int .i64 a_, .int .i64 b_, slv dv] 41) := ⟨_, rfl⟩
  have hbw : Below w.heap.size w W := by rw [hW]; exact (Below.refl _ _).alloc (Nat.le_refl _) _
  have gb : W.heap[w.heap.size]? = some (.cells #[.int .i64 pk, .int .i64 do_, .int .i64 a_, .int .i64 b_, slv dv] 41 (0, 0)) := by rw [hW]; exact alloc_new _ _
  have hr : BRep B W b m := h.keep fun k hl _ => hbw.block k hl
  go_enter Try.func28, Try.ntmps28
  go_upto_region 3 with (fail)
  rw [← hW]
  have z1 : W.cell? ⟨w.heap.size, 1, none⟩ = some (.int .i64 do_) := (cell_of gb 1).trans rfl
  have z4 : W.cell? ⟨w.heap.size, 4, none⟩ = some (slv dv) := (cell_of gb 4).trans rfl
  obtain ⟨c0, c1, c2, c3, c4⟩ := hr.all
  have HR := Lib.hid hr
  have HB := Lib.hid hbw
  clear hr h gb hbw hW hd hdev hat hat1 hdo
  go_wp2_with (first | (go_at_call 33; (refine (C33.out _ HR.out).mono ?_); rintro e w1 ⟨rfl, hw1⟩; (obtain rfl : W = w1 := hw1.symm)) | (go_at_call 99; (refine (C99.out _ _).mono ?_); rintro e w1 ⟨rfl, hw1⟩; (obtain rfl : W = w1 := hw1.symm)))
  go_ret
  exact ⟨rfl, HB.out⟩
set_option maxHeartbeats 4000000 in
set_option maxRecDepth 100000 in
/-- Too many bytes. -/
theorem send_much_l (w : World) (B b d : Nat) (m : BM) (h : BRep B w b m) (dev at_ : Int) (hdev : 1 ≤ dev) (hd : m.ds[(dev - 1).toNat]? = some (.iface 125 (ptr d))) (pk do_ a_ b_ : Int) (dv : Sl) (hat : ¬ at_ < m.now) (hat1 : ¬ 1000000000 < at_) (hdo : 1 ≤ do_ ∧ do_ ≤ 2) (hsent : 0 ≤ m.sent ∧ m.sent < 400) (hdata : 4000 < dv.2.1) :
    Calls Try.prog 28 #[ptr b, .int .i64 dev, .int .i64 at_, .agg #[.int .i64 pk, .int .i64 do_, .int .i64 a_, .int .i64 b_, slv dv]] w fun e w' => e = .returned (.int .i64 2) ∧ Below w.heap.size w w' := by
  have C33 := Lib.hid (fun (w' : World) (h' : BRep B w' b m) => device_some w' B b m h' dev hdev _ hd)
  have C99 := Lib.hid (fun (w' : World) (v : Value) => line_has w' v do_)
  have m1 := fun (w' : World) => meth_has125 (ptr d) w'
  have e1 := fun (args : Array Value) (w' : World) => enters_of Try.func99 (by decide) rfl args w'
  have t1 : decide (at_ < m.now) = false := by simpa using hat
  have t2 : decide (1000000000 < at_) = false := by simpa using hat1
  rw [decide_eq_true hdo] at C99
  have t3 : (m.sent == 400) = false := by simp; omega
  have t4 : decide (4000 < (dv.2.1 : Int)) = true := by simp; omega
  obtain ⟨W, hW⟩ : ∃ W, W = w.alloc (.cells #[.int .i64 pk, .int .i64 do_, .int .i64 a_, .int .i64 b_, slv dv] 41) := ⟨_, rfl⟩
  have hbw : Below w.heap.size w W := by rw [hW]; exact (Below.refl _ _).alloc (Nat.le_refl _) _
  have gb : W.heap[w.heap.size]? = some (.cells #[.int .i64 pk, .int .i64 do_, .int .i64 a_, .int .i64 b_, slv dv] 41 (0, 0)) := by rw [hW]; exact alloc_new _ _
  have hr : BRep B W b m := h.keep fun k hl _ => hbw.block k hl
  go_enter Try.func28, Try.ntmps28
  go_upto_region 3 with (fail)
  rw [← hW]
  have z1 : W.cell? ⟨w.heap.size, 1, none⟩ = some (.int .i64 do_) := (cell_of gb 1).trans rfl
  have z4 : W.cell? ⟨w.heap.size, 4, none⟩ = some (slv dv) := (cell_of gb 4).trans rfl
  obtain ⟨c0, c1, c2, c3, c4⟩ := hr.all
  have HR := Lib.hid hr
  have HB := Lib.hid hbw
  clear hr h gb hbw hW hd hdev hat hat1 hdo hsent hdata
  go_wp2_with (first | (go_at_call 33; (refine (C33.out _ HR.out).mono ?_); rintro e w1 ⟨rfl, hw1⟩; (obtain rfl : W = w1 := hw1.symm)) | (go_at_call 99; (refine (C99.out _ _).mono ?_); rintro e w1 ⟨rfl, hw1⟩; (obtain rfl : W = w1 := hw1.symm)))
  go_ret
  exact ⟨rfl, HB.out⟩
set_option maxHeartbeats 4000000 in
set_option maxRecDepth 100000 in
/-- Too early. -/
theorem send_late_t (w : World) (B b d : Nat) (m : BM) (h : BRep B w b m) (dev at_ : Int) (hdev : 1 ≤ dev) (hd : m.ds[(dev - 1).toNat]? = some (.iface 93 (ptr d))) (pk do_ a_ b_ : Int) (dv : Sl) (hat : at_ < m.now) :
    Calls Try.prog 28 #[ptr b, .int .i64 dev, .int .i64 at_, .agg #[.int .i64 pk, .int .i64 do_, .int .i64 a_, .int .i64 b_, slv dv]] w fun e w' => e = .returned (.int .i64 1) ∧ Below w.heap.size w w' := by
  have C33 := Lib.hid (fun (w' : World) (h' : BRep B w' b m) => device_some w' B b m h' dev hdev _ hd)
  have C95 := Lib.hid (fun (w' : World) (v : Value) => term_has w' v do_)
  have m1 := fun (w' : World) => meth_has93 (ptr d) w'
  have e1 := fun (args : Array Value) (w' : World) => enters_of Try.func95 (by decide) rfl args w'
  have t1 : decide (at_ < m.now) = true := by simpa using hat
  obtain ⟨W, hW⟩ : ∃ W, W = w.alloc (.cells #[.int .i64 pk, .int .i64 do_, .int .i64 a_, .int .i64 b_, slv dv] 41) := ⟨_, rfl⟩
  have hbw : Below w.heap.size w W := by rw [hW]; exact (Below.refl _ _).alloc (Nat.le_refl _) _
  have gb : W.heap[w.heap.size]? = some (.cells #[.int .i64 pk, .int .i64 do_, .int .i64 a_, .int .i64 b_, slv dv] 41 (0, 0)) := by rw [hW]; exact alloc_new _ _
  have hr : BRep B W b m := h.keep fun k hl _ => hbw.block k hl
  go_enter Try.func28, Try.ntmps28
  go_upto_region 3 with (fail)
  rw [← hW]
  have z1 : W.cell? ⟨w.heap.size, 1, none⟩ = some (.int .i64 do_) := (cell_of gb 1).trans rfl
  have z4 : W.cell? ⟨w.heap.size, 4, none⟩ = some (slv dv) := (cell_of gb 4).trans rfl
  obtain ⟨c0, c1, c2, c3, c4⟩ := hr.all
  have HR := Lib.hid hr
  have HB := Lib.hid hbw
  clear hr h gb hbw hW hd hdev hat
  go_wp2_with (first | (go_at_call 33; (refine (C33.out _ HR.out).mono ?_); rintro e w1 ⟨rfl, hw1⟩; (obtain rfl : W = w1 := hw1.symm)) | (go_at_call 95; (refine (C95.out _ _).mono ?_); rintro e w1 ⟨rfl, hw1⟩; (obtain rfl : W = w1 := hw1.symm)))
  go_ret
  exact ⟨rfl, HB.out⟩
set_option maxHeartbeats 4000000 in
set_option maxRecDepth 100000 in
/-- Too late. -/
theorem send_far_t (w : World) (B b d : Nat) (m : BM) (h : BRep B w b m) (dev at_ : Int) (hdev : 1 ≤ dev) (hd : m.ds[(dev - 1).toNat]? = some (.iface 93 (ptr d))) (pk do_ a_ b_ : Int) (dv : Sl) (hat : ¬ at_ < m.now) (hat1 : 1000000000 < at_) :
    Calls Try.prog 28 #[ptr b, .int .i64 dev, .int .i64 at_, .agg #[.int .i64 pk, .int .i64 do_, .int .i64 a_, .int .i64 b_, slv dv]] w fun e w' => e = .returned (.int .i64 1) ∧ Below w.heap.size w w' := by
  have C33 := Lib.hid (fun (w' : World) (h' : BRep B w' b m) => device_some w' B b m h' dev hdev _ hd)
  have C95 := Lib.hid (fun (w' : World) (v : Value) => term_has w' v do_)
  have m1 := fun (w' : World) => meth_has93 (ptr d) w'
  have e1 := fun (args : Array Value) (w' : World) => enters_of Try.func95 (by decide) rfl args w'
  have t1 : decide (at_ < m.now) = false := by simpa using hat
  have t2 : decide (1000000000 < at_) = true := by simpa using hat1
  obtain ⟨W, hW⟩ : ∃ W, W = w.alloc (.cells #[.int .i64 pk, .int .i64 do_, .int .i64 a_, .int .i64 b_, slv dv] 41) := ⟨_, rfl⟩
  have hbw : Below w.heap.size w W := by rw [hW]; exact (Below.refl _ _).alloc (Nat.le_refl _) _
  have gb : W.heap[w.heap.size]? = some (.cells #[.int .i64 pk, .int .i64 do_, .int .i64 a_, .int .i64 b_, slv dv] 41 (0, 0)) := by rw [hW]; exact alloc_new _ _
  have hr : BRep B W b m := h.keep fun k hl _ => hbw.block k hl
  go_enter Try.func28, Try.ntmps28
  go_upto_region 3 with (fail)
  rw [← hW]
  have z1 : W.cell? ⟨w.heap.size, 1, none⟩ = some (.int .i64 do_) := (cell_of gb 1).trans rfl
  have z4 : W.cell? ⟨w.heap.size, 4, none⟩ = some (slv dv) := (cell_of gb 4).trans rfl
  obtain ⟨c0, c1, c2, c3, c4⟩ := hr.all
  have HR := Lib.hid hr
  have HB := Lib.hid hbw
  clear hr h gb hbw hW hd hdev hat hat1
  go_wp2_with (first | (go_at_call 33; (refine (C33.out _ HR.out).mono ?_); rintro e w1 ⟨rfl, hw1⟩; (obtain rfl : W = w1 := hw1.symm)) | (go_at_call 95; (refine (C95.out _ _).mono ?_); rintro e w1 ⟨rfl, hw1⟩; (obtain rfl : W = w1 := hw1.symm)))
  go_ret
  exact ⟨rfl, HB.out⟩
set_option maxHeartbeats 4000000 in
set_option maxRecDepth 100000 in
/-- It has no such request. -/
theorem send_what_t (w : World) (B b d : Nat) (m : BM) (h : BRep B w b m) (dev at_ : Int) (hdev : 1 ≤ dev) (hd : m.ds[(dev - 1).toNat]? = some (.iface 93 (ptr d))) (pk do_ a_ b_ : Int) (dv : Sl) (hat : ¬ at_ < m.now) (hat1 : ¬ 1000000000 < at_) (hdo : ¬ (1 ≤ do_ ∧ do_ ≤ 2)) :
    Calls Try.prog 28 #[ptr b, .int .i64 dev, .int .i64 at_, .agg #[.int .i64 pk, .int .i64 do_, .int .i64 a_, .int .i64 b_, slv dv]] w fun e w' => e = .returned (.int .i64 1) ∧ Below w.heap.size w w' := by
  have C33 := Lib.hid (fun (w' : World) (h' : BRep B w' b m) => device_some w' B b m h' dev hdev _ hd)
  have C95 := Lib.hid (fun (w' : World) (v : Value) => term_has w' v do_)
  have m1 := fun (w' : World) => meth_has93 (ptr d) w'
  have e1 := fun (args : Array Value) (w' : World) => enters_of Try.func95 (by decide) rfl args w'
  have t1 : decide (at_ < m.now) = false := by simpa using hat
  have t2 : decide (1000000000 < at_) = false := by simpa using hat1
  rw [decide_eq_false hdo] at C95
  obtain ⟨W, hW⟩ : ∃ W, W = w.alloc (.cells #[.int .i64 pk, .int .i64 do_, .int .i64 a_, .int .i64 b_, slv dv] 41) := ⟨_, rfl⟩
  have hbw : Below w.heap.size w W := by rw [hW]; exact (Below.refl _ _).alloc (Nat.le_refl _) _
  have gb : W.heap[w.heap.size]? = some (.cells #[.int .i64 pk, .int .i64 do_, .int .i64 a_, .int .i64 b_, slv dv] 41 (0, 0)) := by rw [hW]; exact alloc_new _ _
  have hr : BRep B W b m := h.keep fun k hl _ => hbw.block k hl
  go_enter Try.func28, Try.ntmps28
  go_upto_region 3 with (fail)
  rw [← hW]
  have z1 : W.cell? ⟨w.heap.size, 1, none⟩ = some (.int .i64 do_) := (cell_of gb 1).trans rfl
  have z4 : W.cell? ⟨w.heap.size, 4, none⟩ = some (slv dv) := (cell_of gb 4).trans rfl
  obtain ⟨c0, c1, c2, c3, c4⟩ := hr.all
  have HR := Lib.hid hr
  have HB := Lib.hid hbw
  clear hr h gb hbw hW hd hdev hat hat1 hdo
  go_wp2_with (first | (go_at_call 33; (refine (C33.out _ HR.out).mono ?_); rintro e w1 ⟨rfl, hw1⟩; (obtain rfl : W = w1 := hw1.symm)) | (go_at_call 95; (refine (C95.out _ _).mono ?_); rintro e w1 ⟨rfl, hw1⟩; (obtain rfl : W = w1 := hw1.symm)))
  go_ret
  exact ⟨rfl, HB.out⟩
set_option maxHeartbeats 4000000 in
set_option maxRecDepth 100000 in
/-- Too many bytes. -/
theorem send_much_t (w : World) (B b d : Nat) (m : BM) (h : BRep B w b m) (dev at_ : Int) (hdev : 1 ≤ dev) (hd : m.ds[(dev - 1).toNat]? = some (.iface 93 (ptr d))) (pk do_ a_ b_ : Int) (dv : Sl) (hat : ¬ at_ < m.now) (hat1 : ¬ 1000000000 < at_) (hdo : 1 ≤ do_ ∧ do_ ≤ 2) (hsent : 0 ≤ m.sent ∧ m.sent < 400) (hdata : 4000 < dv.2.1) :
    Calls Try.prog 28 #[ptr b, .int .i64 dev, .int .i64 at_, .agg #[.int .i64 pk, .int .i64 do_, .int .i64 a_, .int .i64 b_, slv dv]] w fun e w' => e = .returned (.int .i64 2) ∧ Below w.heap.size w w' := by
  have C33 := Lib.hid (fun (w' : World) (h' : BRep B w' b m) => device_some w' B b m h' dev hdev _ hd)
  have C95 := Lib.hid (fun (w' : World) (v : Value) => term_has w' v do_)
  have m1 := fun (w' : World) => meth_has93 (ptr d) w'
  have e1 := fun (args : Array Value) (w' : World) => enters_of Try.func95 (by decide) rfl args w'
  have t1 : decide (at_ < m.now) = false := by simpa using hat
  have t2 : decide (1000000000 < at_) = false := by simpa using hat1
  rw [decide_eq_true hdo] at C95
  have t3 : (m.sent == 400) = false := by simp; omega
  have t4 : decide (4000 < (dv.2.1 : Int)) = true := by simp; omega
  obtain ⟨W, hW⟩ : ∃ W, W = w.alloc (.cells #[.int .i64 pk, .int .i64 do_, .int .i64 a_, .int .i64 b_, slv dv] 41) := ⟨_, rfl⟩
  have hbw : Below w.heap.size w W := by rw [hW]; exact (Below.refl _ _).alloc (Nat.le_refl _) _
  have gb : W.heap[w.heap.size]? = some (.cells #[.int .i64 pk, .int .i64 do_, .int .i64 a_, .int .i64 b_, slv dv] 41 (0, 0)) := by rw [hW]; exact alloc_new _ _
  have hr : BRep B W b m := h.keep fun k hl _ => hbw.block k hl
  go_enter Try.func28, Try.ntmps28
  go_upto_region 3 with (fail)
  rw [← hW]
  have z1 : W.cell? ⟨w.heap.size, 1, none⟩ = some (.int .i64 do_) := (cell_of gb 1).trans rfl
  have z4 : W.cell? ⟨w.heap.size, 4, none⟩ = some (slv dv) := (cell_of gb 4).trans rfl
  obtain ⟨c0, c1, c2, c3, c4⟩ := hr.all
  have HR := Lib.hid hr
  have HB := Lib.hid hbw
  clear hr h gb hbw hW hd hdev hat hat1 hdo hsent hdata
  go_wp2_with (first | (go_at_call 33; (refine (C33.out _ HR.out).mono ?_); rintro e w1 ⟨rfl, hw1⟩; (obtain rfl : W = w1 := hw1.symm)) | (go_at_call 95; (refine (C95.out _ _).mono ?_); rintro e w1 ⟨rfl, hw1⟩; (obtain rfl : W = w1 := hw1.symm)))
  go_ret
  exact ⟨rfl, HB.out⟩
set_option maxHeartbeats 4000000 in
set_option maxRecDepth 100000 in
/-- Too early. -/
theorem send_late_c (w : World) (B b : Nat) (m : BM) (h : BRep B w b m) (dev at_ : Int) (hdev : 1 ≤ dev) (hd : m.ds[(dev - 1).toNat]? = some (.iface 119 (.agg #[]))) (pk do_ a_ b_ : Int) (dv : Sl) (hat : at_ < m.now) :
    Calls Try.prog 28 #[ptr b, .int .i64 dev, .int .i64 at_, .agg #[.int .i64 pk, .int .i64 do_, .int .i64 a_, .int .i64 b_, slv dv]] w fun e w' => e = .returned (.int .i64 1) ∧ Below w.heap.size w w' := by
  have C33 := Lib.hid (fun (w' : World) (h' : BRep B w' b m) => device_some w' B b m h' dev hdev _ hd)
  have C97 := Lib.hid (fun (w' : World) => clock_has w' do_)
  have m1 := fun (w' : World) => meth_has119 (.agg #[]) w'
  have e1 := fun (args : Array Value) (w' : World) => enters_of Try.func97 (by decide) rfl args w'
  have t1 : decide (at_ < m.now) = true := by simpa using hat
  obtain ⟨W, hW⟩ : ∃ W, W = w.alloc (.cells #[.int .i64 pk, .int .i64 do_, .int .i64 a_, .int .i64 b_, slv dv] 41) := ⟨_, rfl⟩
  have hbw : Below w.heap.size w W := by rw [hW]; exact (Below.refl _ _).alloc (Nat.le_refl _) _
  have gb : W.heap[w.heap.size]? = some (.cells #[.int .i64 pk, .int .i64 do_, .int .i64 a_, .int .i64 b_, slv dv] 41 (0, 0)) := by rw [hW]; exact alloc_new _ _
  have hr : BRep B W b m := h.keep fun k hl _ => hbw.block k hl
  go_enter Try.func28, Try.ntmps28
  go_upto_region 3 with (fail)
  rw [← hW]
  have z1 : W.cell? ⟨w.heap.size, 1, none⟩ = some (.int .i64 do_) := (cell_of gb 1).trans rfl
  have z4 : W.cell? ⟨w.heap.size, 4, none⟩ = some (slv dv) := (cell_of gb 4).trans rfl
  obtain ⟨c0, c1, c2, c3, c4⟩ := hr.all
  have HR := Lib.hid hr
  have HB := Lib.hid hbw
  have GB := Lib.hid gb
  clear hr h gb hbw hW hd hdev hat
  go_wp2_with (first | (go_at_call 33; (refine (C33.out _ HR.out).mono ?_); rintro e w1 ⟨rfl, hw1⟩; (obtain rfl : W = w1 := hw1.symm)) | (go_at_call 97; (refine (C97.out _).mono ?_); rintro e w1 ⟨rfl, hb1⟩; have hr' : BRep B w1 b m := HR.out.keep fun k hl _ => hb1.block k hl; have gb' := (hb1.block _ (blt GB.out)).trans GB.out; clear z1 z4 c0 c1 c2 c3 c4; have z4 : w1.cell? ⟨w.heap.size, 4, none⟩ = some (slv dv) := (cell_of gb' 4).trans rfl; (obtain ⟨c0, c1, c2, c3, c4⟩ := hr'.all); have HB1 := Lib.hid hb1; clear hr' gb' hb1))
  go_ret
  exact ⟨rfl, HB.out⟩
set_option maxHeartbeats 4000000 in
set_option maxRecDepth 100000 in
/-- Too late. -/
theorem send_far_c (w : World) (B b : Nat) (m : BM) (h : BRep B w b m) (dev at_ : Int) (hdev : 1 ≤ dev) (hd : m.ds[(dev - 1).toNat]? = some (.iface 119 (.agg #[]))) (pk do_ a_ b_ : Int) (dv : Sl) (hat : ¬ at_ < m.now) (hat1 : 1000000000 < at_) :
    Calls Try.prog 28 #[ptr b, .int .i64 dev, .int .i64 at_, .agg #[.int .i64 pk, .int .i64 do_, .int .i64 a_, .int .i64 b_, slv dv]] w fun e w' => e = .returned (.int .i64 1) ∧ Below w.heap.size w w' := by
  have C33 := Lib.hid (fun (w' : World) (h' : BRep B w' b m) => device_some w' B b m h' dev hdev _ hd)
  have C97 := Lib.hid (fun (w' : World) => clock_has w' do_)
  have m1 := fun (w' : World) => meth_has119 (.agg #[]) w'
  have e1 := fun (args : Array Value) (w' : World) => enters_of Try.func97 (by decide) rfl args w'
  have t1 : decide (at_ < m.now) = false := by simpa using hat
  have t2 : decide (1000000000 < at_) = true := by simpa using hat1
  obtain ⟨W, hW⟩ : ∃ W, W = w.alloc (.cells #[.int .i64 pk, .int .i64 do_, .int .i64 a_, .int .i64 b_, slv dv] 41) := ⟨_, rfl⟩
  have hbw : Below w.heap.size w W := by rw [hW]; exact (Below.refl _ _).alloc (Nat.le_refl _) _
  have gb : W.heap[w.heap.size]? = some (.cells #[.int .i64 pk, .int .i64 do_, .int .i64 a_, .int .i64 b_, slv dv] 41 (0, 0)) := by rw [hW]; exact alloc_new _ _
  have hr : BRep B W b m := h.keep fun k hl _ => hbw.block k hl
  go_enter Try.func28, Try.ntmps28
  go_upto_region 3 with (fail)
  rw [← hW]
  have z1 : W.cell? ⟨w.heap.size, 1, none⟩ = some (.int .i64 do_) := (cell_of gb 1).trans rfl
  have z4 : W.cell? ⟨w.heap.size, 4, none⟩ = some (slv dv) := (cell_of gb 4).trans rfl
  obtain ⟨c0, c1, c2, c3, c4⟩ := hr.all
  have HR := Lib.hid hr
  have HB := Lib.hid hbw
  have GB := Lib.hid gb
  clear hr h gb hbw hW hd hdev hat hat1
  go_wp2_with (first | (go_at_call 33; (refine (C33.out _ HR.out).mono ?_); rintro e w1 ⟨rfl, hw1⟩; (obtain rfl : W = w1 := hw1.symm)) | (go_at_call 97; (refine (C97.out _).mono ?_); rintro e w1 ⟨rfl, hb1⟩; have hr' : BRep B w1 b m := HR.out.keep fun k hl _ => hb1.block k hl; have gb' := (hb1.block _ (blt GB.out)).trans GB.out; clear z1 z4 c0 c1 c2 c3 c4; have z4 : w1.cell? ⟨w.heap.size, 4, none⟩ = some (slv dv) := (cell_of gb' 4).trans rfl; (obtain ⟨c0, c1, c2, c3, c4⟩ := hr'.all); have HB1 := Lib.hid hb1; clear hr' gb' hb1))
  go_ret
  exact ⟨rfl, HB.out⟩
set_option maxHeartbeats 4000000 in
set_option maxRecDepth 100000 in
/-- It has no such request. -/
theorem send_what_c (w : World) (B b : Nat) (m : BM) (h : BRep B w b m) (dev at_ : Int) (hdev : 1 ≤ dev) (hd : m.ds[(dev - 1).toNat]? = some (.iface 119 (.agg #[]))) (pk do_ a_ b_ : Int) (dv : Sl) (hat : ¬ at_ < m.now) (hat1 : ¬ 1000000000 < at_) (hdo : ¬ (1 ≤ do_ ∧ do_ ≤ 1)) :
    Calls Try.prog 28 #[ptr b, .int .i64 dev, .int .i64 at_, .agg #[.int .i64 pk, .int .i64 do_, .int .i64 a_, .int .i64 b_, slv dv]] w fun e w' => e = .returned (.int .i64 1) ∧ Below w.heap.size w w' := by
  have C33 := Lib.hid (fun (w' : World) (h' : BRep B w' b m) => device_some w' B b m h' dev hdev _ hd)
  have C97 := Lib.hid (fun (w' : World) => clock_has w' do_)
  have m1 := fun (w' : World) => meth_has119 (.agg #[]) w'
  have e1 := fun (args : Array Value) (w' : World) => enters_of Try.func97 (by decide) rfl args w'
  have t1 : decide (at_ < m.now) = false := by simpa using hat
  have t2 : decide (1000000000 < at_) = false := by simpa using hat1
  rw [decide_eq_false hdo] at C97
  obtain ⟨W, hW⟩ : ∃ W, W = w.alloc (.cells #[.int .i64 pk, .int .i64 do_, .int .i64 a_, .int .i64 b_, slv dv] 41) := ⟨_, rfl⟩
  have hbw : Below w.heap.size w W := by rw [hW]; exact (Below.refl _ _).alloc (Nat.le_refl _) _
  have gb : W.heap[w.heap.size]? = some (.cells #[.int .i64 pk, .int .i64 do_, .int .i64 a_, .int .i64 b_, slv dv] 41 (0, 0)) := by rw [hW]; exact alloc_new _ _
  have hr : BRep B W b m := h.keep fun k hl _ => hbw.block k hl
  go_enter Try.func28, Try.ntmps28
  go_upto_region 3 with (fail)
  rw [← hW]
  have z1 : W.cell? ⟨w.heap.size, 1, none⟩ = some (.int .i64 do_) := (cell_of gb 1).trans rfl
  have z4 : W.cell? ⟨w.heap.size, 4, none⟩ = some (slv dv) := (cell_of gb 4).trans rfl
  obtain ⟨c0, c1, c2, c3, c4⟩ := hr.all
  have HR := Lib.hid hr
  have HB := Lib.hid hbw
  have GB := Lib.hid gb
  clear hr h gb hbw hW hd hdev hat hat1 hdo
  go_wp2_with (first | (go_at_call 33; (refine (C33.out _ HR.out).mono ?_); rintro e w1 ⟨rfl, hw1⟩; (obtain rfl : W = w1 := hw1.symm)) | (go_at_call 97; (refine (C97.out _).mono ?_); rintro e w1 ⟨rfl, hb1⟩; have hr' : BRep B w1 b m := HR.out.keep fun k hl _ => hb1.block k hl; have gb' := (hb1.block _ (blt GB.out)).trans GB.out; clear z1 z4 c0 c1 c2 c3 c4; have z4 : w1.cell? ⟨w.heap.size, 4, none⟩ = some (slv dv) := (cell_of gb' 4).trans rfl; (obtain ⟨c0, c1, c2, c3, c4⟩ := hr'.all); have HB1 := Lib.hid hb1; clear hr' gb' hb1))
  go_ret
  exact ⟨rfl, HB.out.trans (HB1.out.mono HB.out.size)⟩
set_option maxHeartbeats 4000000 in
set_option maxRecDepth 100000 in
/-- Too many bytes. -/
theorem send_much_c (w : World) (B b : Nat) (m : BM) (h : BRep B w b m) (dev at_ : Int) (hdev : 1 ≤ dev) (hd : m.ds[(dev - 1).toNat]? = some (.iface 119 (.agg #[]))) (pk do_ a_ b_ : Int) (dv : Sl) (hat : ¬ at_ < m.now) (hat1 : ¬ 1000000000 < at_) (hdo : 1 ≤ do_ ∧ do_ ≤ 1) (hsent : 0 ≤ m.sent ∧ m.sent < 400) (hdata : 4000 < dv.2.1) :
    Calls Try.prog 28 #[ptr b, .int .i64 dev, .int .i64 at_, .agg #[.int .i64 pk, .int .i64 do_, .int .i64 a_, .int .i64 b_, slv dv]] w fun e w' => e = .returned (.int .i64 2) ∧ Below w.heap.size w w' := by
  have C33 := Lib.hid (fun (w' : World) (h' : BRep B w' b m) => device_some w' B b m h' dev hdev _ hd)
  have C97 := Lib.hid (fun (w' : World) => clock_has w' do_)
  have m1 := fun (w' : World) => meth_has119 (.agg #[]) w'
  have e1 := fun (args : Array Value) (w' : World) => enters_of Try.func97 (by decide) rfl args w'
  have t1 : decide (at_ < m.now) = false := by simpa using hat
  have t2 : decide (1000000000 < at_) = false := by simpa using hat1
  rw [decide_eq_true hdo] at C97
  have t3 : (m.sent == 400) = false := by simp; omega
  have t4 : decide (4000 < (dv.2.1 : Int)) = true := by simp; omega
  obtain ⟨W, hW⟩ : ∃ W, W = w.alloc (.cells #[.int .i64 pk, .int .i64 do_, .int .i64 a_, .int .i64 b_, slv dv] 41) := ⟨_, rfl⟩
  have hbw : Below w.heap.size w W := by rw [hW]; exact (Below.refl _ _).alloc (Nat.le_refl _) _
  have gb : W.heap[w.heap.size]? = some (.cells #[.int .i64 pk, .int .i64 do_, .int .i64 a_, .int .i64 b_, slv dv] 41 (0, 0)) := by rw [hW]; exact alloc_new _ _
  have hr : BRep B W b m := h.keep fun k hl _ => hbw.block k hl
  go_enter Try.func28, Try.ntmps28
  go_upto_region 3 with (fail)
  rw [← hW]
  have z1 : W.cell? ⟨w.heap.size, 1, none⟩ = some (.int .i64 do_) := (cell_of gb 1).trans rfl
  have z4 : W.cell? ⟨w.heap.size, 4, none⟩ = some (slv dv) := (cell_of gb 4).trans rfl
  obtain ⟨c0, c1, c2, c3, c4⟩ := hr.all
  have HR := Lib.hid hr
  have HB := Lib.hid hbw
  have GB := Lib.hid gb
  clear hr h gb hbw hW hd hdev hat hat1 hdo hsent hdata
  go_wp2_with (first | (go_at_call 33; (refine (C33.out _ HR.out).mono ?_); rintro e w1 ⟨rfl, hw1⟩; (obtain rfl : W = w1 := hw1.symm)) | (go_at_call 97; (refine (C97.out _).mono ?_); rintro e w1 ⟨rfl, hb1⟩; have hr' : BRep B w1 b m := HR.out.keep fun k hl _ => hb1.block k hl; have gb' := (hb1.block _ (blt GB.out)).trans GB.out; clear z1 z4 c0 c1 c2 c3 c4; have z4 : w1.cell? ⟨w.heap.size, 4, none⟩ = some (slv dv) := (cell_of gb' 4).trans rfl; (obtain ⟨c0, c1, c2, c3, c4⟩ := hr'.all); have HB1 := Lib.hid hb1; clear hr' gb' hb1))
  go_ret
  exact ⟨rfl, HB.out.trans (HB1.out.mono HB.out.size)⟩
set_option maxHeartbeats 400000 in
set_option maxRecDepth 100000 in
theorem device_none (w : World) (B b : Nat) (m : BM) (h : BRep B w b m) (x : Int) (hx : x < 1 ∨ (m.ds.length : Int) < x) :
    Calls Try.prog 33 #[ptr b, .int .i64 x] w fun e w' => e = .returned .nilIface ∧ w' = w := by
  obtain ⟨c0, c1, c2, c3, c4⟩ := h.all
  have hn := h.vdn
  rw [hn] at c0
  clear h hn
  by_cases h1 : x < 1
  · have d1 : decide (x < 1) = true := by simpa using h1
    clear hx h1
    go_enter Try.func33, Try.ntmps33
    go_wp2
    go_ret
    exact ⟨rfl, rfl⟩
  · have d1 : decide (x < 1) = false := by simpa using h1
    have d2 : decide ((m.ds.length : Int) < x) = true := by simp; omega
    clear hx h1
    go_enter Try.func33, Try.ntmps33
    go_wp2
    go_ret
    exact ⟨rfl, rfl⟩
set_option maxHeartbeats 4000000 in
set_option maxRecDepth 100000 in
/-- There is no such device. -/
theorem send_none (w : World) (B b : Nat) (m : BM) (h : BRep B w b m) (dev at_ : Int) (hdev : dev < 1 ∨ (m.ds.length : Int) < dev) (pk do_ a_ b_ : Int) (dv : Sl) :
    Calls Try.prog 28 #[ptr b, .int .i64 dev, .int .i64 at_, .agg #[.int .i64 pk, .int .i64 do_, .int .i64 a_, .int .i64 b_, slv dv]] w fun e w' => e = .returned (.int .i64 1) ∧ Below w.heap.size w w' := by
  obtain ⟨W, hW⟩ : ∃ W, W = w.alloc (.cells #[.int .i64 pk, .int .i64 do_, .int .i64 a_, .int .i64 b_, slv dv] 41) := ⟨_, rfl⟩
  have hbw : Below w.heap.size w W := by rw [hW]; exact (Below.refl _ _).alloc (Nat.le_refl _) _
  have hr : BRep B W b m := h.keep fun k hl _ => hbw.block k hl
  have C33 := Lib.hid (device_none W B b m hr dev hdev)
  have HB := Lib.hid hbw
  clear hr h hbw hdev
  go_enter Try.func28, Try.ntmps28
  go_upto_region 3 with (fail)
  rw [← hW]
  clear hW
  go_wp2_with (go_at_call 33; (refine (C33.out).mono ?_); rintro e w1 ⟨rfl, hw1⟩; (obtain rfl : W = w1 := hw1.symm))
  go_ret
  exact ⟨rfl, HB.out⟩
end Go.Proofs.Ytkdnkjjnmadhgaa.Dev
