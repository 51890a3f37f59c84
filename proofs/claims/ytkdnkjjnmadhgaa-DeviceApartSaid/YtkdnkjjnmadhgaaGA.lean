import Derived.Test.YtkdnkjjnmadhgaaDJ
set_option linter.unusedVariables false
set_option linter.unusedSimpArgs false
/-! A disk does a request: how many blocks; refused. (Printed by mk_ga.py.) -/
namespace Go.Proofs.Ytkdnkjjnmadhgaa.Dev
open Go.RowKit Go.Maps

theorem One.mk5 {B : Nat} {w0 w5 : World} {q : Rq} {t res : Int} {xs : List Value} {dv : Sl} (hs : w0.heap.size ≤ w5.heap.size) (hd : Held B 5 w5 dv xs) :
    One B w0 q t res xs (.returned (.slice (some ⟨w5.heap.size, 0, none⟩) 1 1)) (w5.alloc (.cells #[.int .i64 q.pk, .int .i64 t, .int .i64 res, slv dv, .int .i64 0, .int .i64 q.ord] 95)) :=
  ⟨w5.heap.size, dv, rfl, hs, alloc_new _ _, hd.below ((Below.refl _ _).alloc (Nat.le_refl _) _)⟩

set_option maxHeartbeats 2000000 in
set_option maxRecDepth 100000 in
/-- Out of range. -/
theorem send_range_r (w : World) (B d : Nat) (m : DM) (p : PD) (q : Rq) (h : DRep B w d m p) (hf : DFit p q) (hq : q.do_ = 1) (ha : q.a_ < 0 ∨ (p.blocks.length : Int) ≤ q.a_) :
    Calls Try.prog 90 #[ptr d, .agg (encQ q).toArray] w fun e w' => One B w q (max q.at_ p.free) (-1) [] e w' ∧ DRep B w' d m { p with free := max q.at_ p.free } ∧ Touch w w' (· = d) := by
  obtain ⟨W, hW⟩ : ∃ W, W = w.alloc (.cells (encQ q).toArray 99) := ⟨_, rfl⟩
  have hbw : Below w.heap.size w W := by rw [hW]; exact (Below.refl _ _).alloc (Nat.le_refl _) _
  have gb : Box W w.heap.size q := by rw [hW]; exact alloc_new _ _
  have hr : DRep B W d m p := h.keep fun k hl _ => hbw.block k hl
  have hdl : d < w.heap.size := blt h.cells
  generalize hQ : (Value.agg (encQ q).toArray) = Q
  go_enter Try.func90, Try.ntmps90
  subst hQ
  go_upto_region 1 with (fail)
  rw [← hW]
  obtain ⟨z0, z1, z2, z3, z4, z5, z6⟩ := gb.all
  obtain ⟨c0, c3, c4, c5, f4, f5⟩ := hr.all
  rw [hq] at z1
  have hne : w.heap.size ≠ d := by omega
  have HR := Lib.hid hr
  have H := Lib.hid h
  have GB := Lib.hid gb
  have HB := Lib.hid hbw
  have HF := Lib.hid hf
  have HQ := Lib.hid hq
  have HDL := Lib.hid hdl
  have HNE := Lib.hid hne
  clear hW h hr gb hbw hf hq hdl hne
  go_quiet (fail)
  go_upto_region 3 with (fail)
  obtain ⟨F, hF⟩ : ∃ F, F = max q.at_ p.free := ⟨_, rfl⟩
  rw [← hF]
  obtain ⟨W1, hW1⟩ : ∃ W1, W1 = (W.drewN nq).setCell ⟨d, 5, none⟩ (.int .i64 F) := ⟨_, rfl⟩
  rw [← hW1]
  have hr1 : DRep B W1 d m { p with free := F } := by rw [hW1]; exact HR.out.put5 nq F
  have gb1 : Box W1 w.heap.size q := by rw [hW1]; exact GB.out.put HNE.out nq 5 _
  have ht1 : Touch W W1 (· = d) := by rw [hW1]; exact (Touch.drewN W nq _).trans (Touch.setCell _ _ _ (S := (· = d)) rfl)
  clear z0 z1 z2 z3 z4 z5 z6 c0 c3 c4 c5 f4 f5
  obtain ⟨z0, z1, z2, z3, z4, z5, z6⟩ := gb1.all
  obtain ⟨c0, c3, c4, c5, f4, f5⟩ := hr1.all
  rw [HQ.out] at z1
  have hbox : (encQ q).toArray = #[.int .i64 q.pk, .int .i64 1, .int .i64 q.a_, .int .i64 q.b_, .slice q.dv.1 q.dv.2.1 q.dv.2.2, .int .i64 q.at_, .int .i64 q.ord] := by
    unfold encQ
    rw [HQ.out]
  have HBOX := Lib.hid hbox
  have hvn : m.vb.2.1 = p.blocks.length := HR.out.vbn
  have hB1 : B ≤ W1.heap.size := by
    have := hr1.low
    have := blt hr1.cells
    omega
  have HR1 := Lib.hid hr1
  have GB1 := Lib.hid gb1
  have HT1 := Lib.hid ht1
  have HFF := Lib.hid hF
  have HB1 := Lib.hid hB1
  clear hr1 gb1 ht1 hF hW1 hbox hB1
  have C92 := Lib.hid (fun n => refuse_any (W1.drewN n) B q F 1 HB1.out (by decide))
  rw [HBOX.out] at C92
  unfold encR at C92
  by_cases ha0 : q.a_ < 0
  · have hd1 : decide (q.a_ < 0) = true := by simpa using ha0
    clear ha
    go_upto_region 5 with (fail)
    go_quiet (fail)
    go_upto_region 6 with (fail)
    go_wp2_with (go_at_call 92; (refine (C92.out _).mono ?_); rintro e w5 ⟨dv, rfl, hb5, hd5⟩; have HB5 := Lib.hid (Below.mk (B := W1.heap.size) (w := W1) hb5.os hb5.tape hb5.output hb5.size hb5.block); have HD5 := Lib.hid hd5; clear hb5 hd5)
    go_ret
    have ht5 : Touch w w5 (· = d) := ((Touch.of_below HB.out).trans HT1.out).trans (Touch.of_below HB5.out)
    have ht6 := ht5.trans (Touch.alloc w5 (.cells #[.int .i64 q.pk, .int .i64 F, .int .i64 (-1), slv dv, .int .i64 0, .int .i64 q.ord] 95) (· = d))
    rw [← HFF.out]
    refine ⟨One.mk5 ht5.size HD5.out, HR1.out.keep fun k hl _ => ?_, ht6⟩
    rw [Below.heap_alloc _ _ _ (Nat.lt_of_lt_of_le hl HB5.out.size)]
    exact HB5.out.block k hl
  · have hd1 : decide (q.a_ < 0) = false := by simpa using ha0
    have hd2 : decide ((m.vb.2.1 : Int) ≤ q.a_) = true := by simp; omega
    clear ha ha0 hvn
    go_upto_region 5 with (fail)
    go_quiet (fail)
    go_upto_region 6 with (fail)
    go_wp2_with (go_at_call 92; (refine (C92.out _).mono ?_); rintro e w5 ⟨dv, rfl, hb5, hd5⟩; have HB5 := Lib.hid (Below.mk (B := W1.heap.size) (w := W1) hb5.os hb5.tape hb5.output hb5.size hb5.block); have HD5 := Lib.hid hd5; clear hb5 hd5)
    go_ret
    have ht5 : Touch w w5 (· = d) := ((Touch.of_below HB.out).trans HT1.out).trans (Touch.of_below HB5.out)
    have ht6 := ht5.trans (Touch.alloc w5 (.cells #[.int .i64 q.pk, .int .i64 F, .int .i64 (-1), slv dv, .int .i64 0, .int .i64 q.ord] 95) (· = d))
    rw [← HFF.out]
    refine ⟨One.mk5 ht5.size HD5.out, HR1.out.keep fun k hl _ => ?_, ht6⟩
    rw [Below.heap_alloc _ _ _ (Nat.lt_of_lt_of_le hl HB5.out.size)]
    exact HB5.out.block k hl

set_option maxHeartbeats 2000000 in
set_option maxRecDepth 100000 in
/-- Out of range. -/
theorem send_range_w (w : World) (B d : Nat) (m : DM) (p : PD) (q : Rq) (h : DRep B w d m p) (hf : DFit p q) (hq : q.do_ = 2) (ha : q.a_ < 0 ∨ (p.blocks.length : Int) ≤ q.a_) :
    Calls Try.prog 90 #[ptr d, .agg (encQ q).toArray] w fun e w' => One B w q (max q.at_ p.free) (-1) [] e w' ∧ DRep B w' d m { p with free := max q.at_ p.free } ∧ Touch w w' (· = d) := by
  obtain ⟨W, hW⟩ : ∃ W, W = w.alloc (.cells (encQ q).toArray 99) := ⟨_, rfl⟩
  have hbw : Below w.heap.size w W := by rw [hW]; exact (Below.refl _ _).alloc (Nat.le_refl _) _
  have gb : Box W w.heap.size q := by rw [hW]; exact alloc_new _ _
  have hr : DRep B W d m p := h.keep fun k hl _ => hbw.block k hl
  have hdl : d < w.heap.size := blt h.cells
  generalize hQ : (Value.agg (encQ q).toArray) = Q
  go_enter Try.func90, Try.ntmps90
  subst hQ
  go_upto_region 1 with (fail)
  rw [← hW]
  obtain ⟨z0, z1, z2, z3, z4, z5, z6⟩ := gb.all
  obtain ⟨c0, c3, c4, c5, f4, f5⟩ := hr.all
  rw [hq] at z1
  have hne : w.heap.size ≠ d := by omega
  have HR := Lib.hid hr
  have H := Lib.hid h
  have GB := Lib.hid gb
  have HB := Lib.hid hbw
  have HF := Lib.hid hf
  have HQ := Lib.hid hq
  have HDL := Lib.hid hdl
  have HNE := Lib.hid hne
  clear hW h hr gb hbw hf hq hdl hne
  go_quiet (fail)
  go_upto_region 3 with (fail)
  obtain ⟨F, hF⟩ : ∃ F, F = max q.at_ p.free := ⟨_, rfl⟩
  rw [← hF]
  obtain ⟨W1, hW1⟩ : ∃ W1, W1 = (W.drewN nq).setCell ⟨d, 5, none⟩ (.int .i64 F) := ⟨_, rfl⟩
  rw [← hW1]
  have hr1 : DRep B W1 d m { p with free := F } := by rw [hW1]; exact HR.out.put5 nq F
  have gb1 : Box W1 w.heap.size q := by rw [hW1]; exact GB.out.put HNE.out nq 5 _
  have ht1 : Touch W W1 (· = d) := by rw [hW1]; exact (Touch.drewN W nq _).trans (Touch.setCell _ _ _ (S := (· = d)) rfl)
  clear z0 z1 z2 z3 z4 z5 z6 c0 c3 c4 c5 f4 f5
  obtain ⟨z0, z1, z2, z3, z4, z5, z6⟩ := gb1.all
  obtain ⟨c0, c3, c4, c5, f4, f5⟩ := hr1.all
  rw [HQ.out] at z1
  have hbox : (encQ q).toArray = #[.int .i64 q.pk, .int .i64 2, .int .i64 q.a_, .int .i64 q.b_, .slice q.dv.1 q.dv.2.1 q.dv.2.2, .int .i64 q.at_, .int .i64 q.ord] := by
    unfold encQ
    rw [HQ.out]
  have HBOX := Lib.hid hbox
  have hvn : m.vb.2.1 = p.blocks.length := HR.out.vbn
  have hB1 : B ≤ W1.heap.size := by
    have := hr1.low
    have := blt hr1.cells
    omega
  have HR1 := Lib.hid hr1
  have GB1 := Lib.hid gb1
  have HT1 := Lib.hid ht1
  have HFF := Lib.hid hF
  have HB1 := Lib.hid hB1
  clear hr1 gb1 ht1 hF hW1 hbox hB1
  have C92 := Lib.hid (fun n => refuse_any (W1.drewN n) B q F 1 HB1.out (by decide))
  rw [HBOX.out] at C92
  unfold encR at C92
  by_cases ha0 : q.a_ < 0
  · have hd1 : decide (q.a_ < 0) = true := by simpa using ha0
    clear ha
    go_upto_region 5 with (fail)
    go_quiet (fail)
    go_upto_region 6 with (fail)
    go_wp2_with (go_at_call 92; (refine (C92.out _).mono ?_); rintro e w5 ⟨dv, rfl, hb5, hd5⟩; have HB5 := Lib.hid (Below.mk (B := W1.heap.size) (w := W1) hb5.os hb5.tape hb5.output hb5.size hb5.block); have HD5 := Lib.hid hd5; clear hb5 hd5)
    go_ret
    have ht5 : Touch w w5 (· = d) := ((Touch.of_below HB.out).trans HT1.out).trans (Touch.of_below HB5.out)
    have ht6 := ht5.trans (Touch.alloc w5 (.cells #[.int .i64 q.pk, .int .i64 F, .int .i64 (-1), slv dv, .int .i64 0, .int .i64 q.ord] 95) (· = d))
    rw [← HFF.out]
    refine ⟨One.mk5 ht5.size HD5.out, HR1.out.keep fun k hl _ => ?_, ht6⟩
    rw [Below.heap_alloc _ _ _ (Nat.lt_of_lt_of_le hl HB5.out.size)]
    exact HB5.out.block k hl
  · have hd1 : decide (q.a_ < 0) = false := by simpa using ha0
    have hd2 : decide ((m.vb.2.1 : Int) ≤ q.a_) = true := by simp; omega
    clear ha ha0 hvn
    go_upto_region 5 with (fail)
    go_quiet (fail)
    go_upto_region 6 with (fail)
    go_wp2_with (go_at_call 92; (refine (C92.out _).mono ?_); rintro e w5 ⟨dv, rfl, hb5, hd5⟩; have HB5 := Lib.hid (Below.mk (B := W1.heap.size) (w := W1) hb5.os hb5.tape hb5.output hb5.size hb5.block); have HD5 := Lib.hid hd5; clear hb5 hd5)
    go_ret
    have ht5 : Touch w w5 (· = d) := ((Touch.of_below HB.out).trans HT1.out).trans (Touch.of_below HB5.out)
    have ht6 := ht5.trans (Touch.alloc w5 (.cells #[.int .i64 q.pk, .int .i64 F, .int .i64 (-1), slv dv, .int .i64 0, .int .i64 q.ord] 95) (· = d))
    rw [← HFF.out]
    refine ⟨One.mk5 ht5.size HD5.out, HR1.out.keep fun k hl _ => ?_, ht6⟩
    rw [Below.heap_alloc _ _ _ (Nat.lt_of_lt_of_le hl HB5.out.size)]
    exact HB5.out.block k hl

set_option maxHeartbeats 2000000 in
set_option maxRecDepth 100000 in
/-- Of a bad form. -/
theorem send_form_r (w : World) (B d : Nat) (m : DM) (p : PD) (q : Rq) (h : DRep B w d m p) (hf : DFit p q) (hq : q.do_ = 1) (ha : 0 ≤ q.a_) (ha2 : q.a_ < (p.blocks.length : Int)) (hl : 0 < q.dv.2.1) :
    Calls Try.prog 90 #[ptr d, .agg (encQ q).toArray] w fun e w' => One B w q (max q.at_ p.free) (-3) [] e w' ∧ DRep B w' d m { p with free := max q.at_ p.free } ∧ Touch w w' (· = d) := by
  obtain ⟨W, hW⟩ : ∃ W, W = w.alloc (.cells (encQ q).toArray 99) := ⟨_, rfl⟩
  have hbw : Below w.heap.size w W := by rw [hW]; exact (Below.refl _ _).alloc (Nat.le_refl _) _
  have gb : Box W w.heap.size q := by rw [hW]; exact alloc_new _ _
  have hr : DRep B W d m p := h.keep fun k hl _ => hbw.block k hl
  have hdl : d < w.heap.size := blt h.cells
  generalize hQ : (Value.agg (encQ q).toArray) = Q
  go_enter Try.func90, Try.ntmps90
  subst hQ
  go_upto_region 1 with (fail)
  rw [← hW]
  obtain ⟨z0, z1, z2, z3, z4, z5, z6⟩ := gb.all
  obtain ⟨c0, c3, c4, c5, f4, f5⟩ := hr.all
  rw [hq] at z1
  have hne : w.heap.size ≠ d := by omega
  have HR := Lib.hid hr
  have H := Lib.hid h
  have GB := Lib.hid gb
  have HB := Lib.hid hbw
  have HF := Lib.hid hf
  have HQ := Lib.hid hq
  have HDL := Lib.hid hdl
  have HNE := Lib.hid hne
  clear hW h hr gb hbw hf hq hdl hne
  go_quiet (fail)
  go_upto_region 3 with (fail)
  obtain ⟨F, hF⟩ : ∃ F, F = max q.at_ p.free := ⟨_, rfl⟩
  rw [← hF]
  obtain ⟨W1, hW1⟩ : ∃ W1, W1 = (W.drewN nq).setCell ⟨d, 5, none⟩ (.int .i64 F) := ⟨_, rfl⟩
  rw [← hW1]
  have hr1 : DRep B W1 d m { p with free := F } := by rw [hW1]; exact HR.out.put5 nq F
  have gb1 : Box W1 w.heap.size q := by rw [hW1]; exact GB.out.put HNE.out nq 5 _
  have ht1 : Touch W W1 (· = d) := by rw [hW1]; exact (Touch.drewN W nq _).trans (Touch.setCell _ _ _ (S := (· = d)) rfl)
  clear z0 z1 z2 z3 z4 z5 z6 c0 c3 c4 c5 f4 f5
  obtain ⟨z0, z1, z2, z3, z4, z5, z6⟩ := gb1.all
  obtain ⟨c0, c3, c4, c5, f4, f5⟩ := hr1.all
  rw [HQ.out] at z1
  have hbox : (encQ q).toArray = #[.int .i64 q.pk, .int .i64 1, .int .i64 q.a_, .int .i64 q.b_, .slice q.dv.1 q.dv.2.1 q.dv.2.2, .int .i64 q.at_, .int .i64 q.ord] := by
    unfold encQ
    rw [HQ.out]
  have HBOX := Lib.hid hbox
  have hvn : m.vb.2.1 = p.blocks.length := HR.out.vbn
  have hB1 : B ≤ W1.heap.size := by
    have := hr1.low
    have := blt hr1.cells
    omega
  have HR1 := Lib.hid hr1
  have GB1 := Lib.hid gb1
  have HT1 := Lib.hid ht1
  have HFF := Lib.hid hF
  have HB1 := Lib.hid hB1
  clear hr1 gb1 ht1 hF hW1 hbox hB1
  have C92 := Lib.hid (fun n => refuse_any (W1.drewN n) B q F 3 HB1.out (by decide))
  rw [HBOX.out] at C92
  unfold encR at C92
  have hd1 : decide (q.a_ < 0) = false := by simpa using ha
  have hd2 : decide ((m.vb.2.1 : Int) ≤ q.a_) = false := by simp; omega
  have d3 : decide (0 < q.dv.2.1) = true := by simpa using hl
  clear ha ha2 hvn
  go_upto_region 5 with (fail)
  go_quiet (fail)
  go_upto_region 8 with (fail)
  go_wp2_with (go_at_call 92; (refine (C92.out _).mono ?_); rintro e w5 ⟨dv, rfl, hb5, hd5⟩; have HB5 := Lib.hid (Below.mk (B := W1.heap.size) (w := W1) hb5.os hb5.tape hb5.output hb5.size hb5.block); have HD5 := Lib.hid hd5; clear hb5 hd5)
  go_ret
  have ht5 : Touch w w5 (· = d) := ((Touch.of_below HB.out).trans HT1.out).trans (Touch.of_below HB5.out)
  have ht6 := ht5.trans (Touch.alloc w5 (.cells #[.int .i64 q.pk, .int .i64 F, .int .i64 (-3), slv dv, .int .i64 0, .int .i64 q.ord] 95) (· = d))
  rw [← HFF.out]
  refine ⟨One.mk5 ht5.size HD5.out, HR1.out.keep fun k hl _ => ?_, ht6⟩
  rw [Below.heap_alloc _ _ _ (Nat.lt_of_lt_of_le hl HB5.out.size)]
  exact HB5.out.block k hl

set_option maxHeartbeats 2000000 in
set_option maxRecDepth 100000 in
/-- Of a bad form. -/
theorem send_form_w (w : World) (B d : Nat) (m : DM) (p : PD) (q : Rq) (h : DRep B w d m p) (hf : DFit p q) (hq : q.do_ = 2) (ha : 0 ≤ q.a_) (ha2 : q.a_ < (p.blocks.length : Int)) (hl : q.dv.2.1 ≠ 64) :
    Calls Try.prog 90 #[ptr d, .agg (encQ q).toArray] w fun e w' => One B w q (max q.at_ p.free) (-3) [] e w' ∧ DRep B w' d m { p with free := max q.at_ p.free } ∧ Touch w w' (· = d) := by
  obtain ⟨W, hW⟩ : ∃ W, W = w.alloc (.cells (encQ q).toArray 99) := ⟨_, rfl⟩
  have hbw : Below w.heap.size w W := by rw [hW]; exact (Below.refl _ _).alloc (Nat.le_refl _) _
  have gb : Box W w.heap.size q := by rw [hW]; exact alloc_new _ _
  have hr : DRep B W d m p := h.keep fun k hl _ => hbw.block k hl
  have hdl : d < w.heap.size := blt h.cells
  generalize hQ : (Value.agg (encQ q).toArray) = Q
  go_enter Try.func90, Try.ntmps90
  subst hQ
  go_upto_region 1 with (fail)
  rw [← hW]
  obtain ⟨z0, z1, z2, z3, z4, z5, z6⟩ := gb.all
  obtain ⟨c0, c3, c4, c5, f4, f5⟩ := hr.all
  rw [hq] at z1
  have hne : w.heap.size ≠ d := by omega
  have HR := Lib.hid hr
  have H := Lib.hid h
  have GB := Lib.hid gb
  have HB := Lib.hid hbw
  have HF := Lib.hid hf
  have HQ := Lib.hid hq
  have HDL := Lib.hid hdl
  have HNE := Lib.hid hne
  clear hW h hr gb hbw hf hq hdl hne
  go_quiet (fail)
  go_upto_region 3 with (fail)
  obtain ⟨F, hF⟩ : ∃ F, F = max q.at_ p.free := ⟨_, rfl⟩
  rw [← hF]
  obtain ⟨W1, hW1⟩ : ∃ W1, W1 = (W.drewN nq).setCell ⟨d, 5, none⟩ (.int .i64 F) := ⟨_, rfl⟩
  rw [← hW1]
  have hr1 : DRep B W1 d m { p with free := F } := by rw [hW1]; exact HR.out.put5 nq F
  have gb1 : Box W1 w.heap.size q := by rw [hW1]; exact GB.out.put HNE.out nq 5 _
  have ht1 : Touch W W1 (· = d) := by rw [hW1]; exact (Touch.drewN W nq _).trans (Touch.setCell _ _ _ (S := (· = d)) rfl)
  clear z0 z1 z2 z3 z4 z5 z6 c0 c3 c4 c5 f4 f5
  obtain ⟨z0, z1, z2, z3, z4, z5, z6⟩ := gb1.all
  obtain ⟨c0, c3, c4, c5, f4, f5⟩ := hr1.all
  rw [HQ.out] at z1
  have hbox : (encQ q).toArray = #[.int .i64 q.pk, .int .i64 2, .int .i64 q.a_, .int .i64 q.b_, .slice q.dv.1 q.dv.2.1 q.dv.2.2, .int .i64 q.at_, .int .i64 q.ord] := by
    unfold encQ
    rw [HQ.out]
  have HBOX := Lib.hid hbox
  have hvn : m.vb.2.1 = p.blocks.length := HR.out.vbn
  have hB1 : B ≤ W1.heap.size := by
    have := hr1.low
    have := blt hr1.cells
    omega
  have HR1 := Lib.hid hr1
  have GB1 := Lib.hid gb1
  have HT1 := Lib.hid ht1
  have HFF := Lib.hid hF
  have HB1 := Lib.hid hB1
  clear hr1 gb1 ht1 hF hW1 hbox hB1
  have C92 := Lib.hid (fun n => refuse_any (W1.drewN n) B q F 3 HB1.out (by decide))
  rw [HBOX.out] at C92
  unfold encR at C92
  have hd1 : decide (q.a_ < 0) = false := by simpa using ha
  have hd2 : decide ((m.vb.2.1 : Int) ≤ q.a_) = false := by simp; omega
  have d3 : (((q.dv.2.1 : Int)) != 64) = true := by simp; omega
  clear ha ha2 hvn
  go_upto_region 5 with (fail)
  go_quiet (fail)
  go_upto_region 8 with (fail)
  go_wp2_with (go_at_call 92; (refine (C92.out _).mono ?_); rintro e w5 ⟨dv, rfl, hb5, hd5⟩; have HB5 := Lib.hid (Below.mk (B := W1.heap.size) (w := W1) hb5.os hb5.tape hb5.output hb5.size hb5.block); have HD5 := Lib.hid hd5; clear hb5 hd5)
  go_ret
  have ht5 : Touch w w5 (· = d) := ((Touch.of_below HB.out).trans HT1.out).trans (Touch.of_below HB5.out)
  have ht6 := ht5.trans (Touch.alloc w5 (.cells #[.int .i64 q.pk, .int .i64 F, .int .i64 (-3), slv dv, .int .i64 0, .int .i64 q.ord] 95) (· = d))
  rw [← HFF.out]
  refine ⟨One.mk5 ht5.size HD5.out, HR1.out.keep fun k hl _ => ?_, ht6⟩
  rw [Below.heap_alloc _ _ _ (Nat.lt_of_lt_of_le hl HB5.out.size)]
  exact HB5.out.block k hl

set_option maxHeartbeats 2000000 in
set_option maxRecDepth 100000 in
/-- How many blocks. -/
theorem send_blocks (w : World) (B d : Nat) (m : DM) (p : PD) (q : Rq) (h : DRep B w d m p) (hf : DFit p q) (hq : q.do_ = 3)  :
    Calls Try.prog 90 #[ptr d, .agg (encQ q).toArray] w fun e w' => One B w q (max q.at_ p.free) (p.blocks.length : Int) [] e w' ∧ DRep B w' d m { p with free := max q.at_ p.free } ∧ Touch w w' (· = d) := by
  obtain ⟨W, hW⟩ : ∃ W, W = w.alloc (.cells (encQ q).toArray 99) := ⟨_, rfl⟩
  have hbw : Below w.heap.size w W := by rw [hW]; exact (Below.refl _ _).alloc (Nat.le_refl _) _
  have gb : Box W w.heap.size q := by rw [hW]; exact alloc_new _ _
  have hr : DRep B W d m p := h.keep fun k hl _ => hbw.block k hl
  have hdl : d < w.heap.size := blt h.cells
  generalize hQ : (Value.agg (encQ q).toArray) = Q
  go_enter Try.func90, Try.ntmps90
  subst hQ
  go_upto_region 1 with (fail)
  rw [← hW]
  obtain ⟨z0, z1, z2, z3, z4, z5, z6⟩ := gb.all
  obtain ⟨c0, c3, c4, c5, f4, f5⟩ := hr.all
  rw [hq] at z1
  have hne : w.heap.size ≠ d := by omega
  have HR := Lib.hid hr
  have H := Lib.hid h
  have GB := Lib.hid gb
  have HB := Lib.hid hbw
  have HF := Lib.hid hf
  have HQ := Lib.hid hq
  have HDL := Lib.hid hdl
  have HNE := Lib.hid hne
  clear hW h hr gb hbw hf hq hdl hne
  go_quiet (fail)
  go_upto_region 3 with (fail)
  obtain ⟨F, hF⟩ : ∃ F, F = max q.at_ p.free := ⟨_, rfl⟩
  rw [← hF]
  obtain ⟨W1, hW1⟩ : ∃ W1, W1 = (W.drewN nq).setCell ⟨d, 5, none⟩ (.int .i64 F) := ⟨_, rfl⟩
  rw [← hW1]
  have hr1 : DRep B W1 d m { p with free := F } := by rw [hW1]; exact HR.out.put5 nq F
  have gb1 : Box W1 w.heap.size q := by rw [hW1]; exact GB.out.put HNE.out nq 5 _
  have ht1 : Touch W W1 (· = d) := by rw [hW1]; exact (Touch.drewN W nq _).trans (Touch.setCell _ _ _ (S := (· = d)) rfl)
  clear z0 z1 z2 z3 z4 z5 z6 c0 c3 c4 c5 f4 f5
  obtain ⟨z0, z1, z2, z3, z4, z5, z6⟩ := gb1.all
  obtain ⟨c0, c3, c4, c5, f4, f5⟩ := hr1.all
  rw [HQ.out] at z1
  have hbox : (encQ q).toArray = #[.int .i64 q.pk, .int .i64 3, .int .i64 q.a_, .int .i64 q.b_, .slice q.dv.1 q.dv.2.1 q.dv.2.2, .int .i64 q.at_, .int .i64 q.ord] := by
    unfold encQ
    rw [HQ.out]
  have HBOX := Lib.hid hbox
  have hvn : m.vb.2.1 = p.blocks.length := HR.out.vbn
  have hB1 : B ≤ W1.heap.size := by
    have := hr1.low
    have := blt hr1.cells
    omega
  have HR1 := Lib.hid hr1
  have GB1 := Lib.hid gb1
  have HT1 := Lib.hid ht1
  have HFF := Lib.hid hF
  have HB1 := Lib.hid hB1
  clear hr1 gb1 ht1 hF hW1 hbox hB1
  have C91 := Lib.hid (answer_any W1.drew B q F (p.blocks.length : Int) (none, 0, 0) [] Held.nil_ HB1.out (by simp))
  rw [HBOX.out] at C91
  unfold encR at C91
  rw [hvn] at c0
  clear hvn
  go_upto_region 4 with (fail)
  obtain ⟨C, hCd⟩ : ∃ C : World → Prop, ∀ z, C z ↔ (z.cell? ⟨w.heap.size, 0, none⟩ = some (.int .i64 q.pk) ∧ z.cell? ⟨w.heap.size, 1, none⟩ = some (.int .i64 3) ∧ z.cell? ⟨w.heap.size, 2, none⟩ = some (.int .i64 q.a_) ∧ z.cell? ⟨w.heap.size, 3, none⟩ = some (.int .i64 q.b_) ∧ z.cell? ⟨w.heap.size, 4, none⟩ = some (.slice q.dv.1 q.dv.2.1 q.dv.2.2) ∧ z.cell? ⟨w.heap.size, 5, none⟩ = some (.int .i64 q.at_) ∧ z.cell? ⟨w.heap.size, 6, none⟩ = some (.int .i64 q.ord) ∧ z.cell? ⟨d, 0, none⟩ = some (.slice m.vb.1 p.blocks.length m.vb.2.2)) := ⟨_, fun _ => Iff.rfl⟩
  have s0 := fun s : {z : World // C z} => ((hCd s.1).1 s.2).1
  have s1 := fun s : {z : World // C z} => ((hCd s.1).1 s.2).2.1
  have s2 := fun s : {z : World // C z} => ((hCd s.1).1 s.2).2.2.1
  have s3 := fun s : {z : World // C z} => ((hCd s.1).1 s.2).2.2.2.1
  have s4 := fun s : {z : World // C z} => ((hCd s.1).1 s.2).2.2.2.2.1
  have s5 := fun s : {z : World // C z} => ((hCd s.1).1 s.2).2.2.2.2.2.1
  have s6 := fun s : {z : World // C z} => ((hCd s.1).1 s.2).2.2.2.2.2.2.1
  have s7 := fun s : {z : World // C z} => ((hCd s.1).1 s.2).2.2.2.2.2.2.2
  have hC0 := (hCd W1.drew).2 ⟨z0, z1, z2, z3, z4, z5, z6, c0⟩
  haveI : Nonempty {z : World // C z} := ⟨⟨W1.drew, hC0⟩⟩
  refine Mix.wp_region_mix C [7, 8] (by kernel_rfl) (by kernel_rfl) hC0 ?_
  have HCD := Lib.hid hCd
  have HC0 := Lib.hid hC0
  clear hCd hC0 z0 z1 z2 z3 z4 z5 z6 c0 c3 c4 c5
  repeat (refine Mix.mix_still rfl (fun K hK => ?_); go_simp; refine hK _ ?_; clear hK K)
  refine Mix.mix_eff rfl ?_
  go_wp2_with (go_at_call 91; (refine (C91.out).mono ?_); rintro e w5 ⟨dv, rfl, hb5, hd5⟩; have HB5 := Lib.hid (Below.mk (B := W1.heap.size) (w := W1) hb5.os hb5.tape hb5.output hb5.size hb5.block); have HD5 := Lib.hid hd5; clear hb5 hd5)
  have hk5 : ∀ {a : Addr} {v : Value}, W1.drew.cell? a = some v → w5.cell? a = some v := fun h => (HB5.out.cell (lt_of_cell h)).trans h
  obtain ⟨y0, y1, y2, y3, y4, y5, y6, y7⟩ := (HCD.out _).1 HC0.out
  refine ⟨(HCD.out _).2 ⟨hk5 y0, hk5 y1, hk5 y2, hk5 y3, hk5 y4, hk5 y5, hk5 y6, hk5 y7⟩, ?_⟩
  refine Mix.mix_eff rfl ?_
  go_wp2
  refine ⟨(HCD.out _).2 ⟨Lib.cell?_alloc_some _ (hk5 y0), Lib.cell?_alloc_some _ (hk5 y1), Lib.cell?_alloc_some _ (hk5 y2), Lib.cell?_alloc_some _ (hk5 y3), Lib.cell?_alloc_some _ (hk5 y4), Lib.cell?_alloc_some _ (hk5 y5), Lib.cell?_alloc_some _ (hk5 y6), Lib.cell?_alloc_some _ (hk5 y7)⟩, ?_⟩
  clear hk5 y0 y1 y2 y3 y4 y5 y6 y7
  repeat (refine Mix.mix_still rfl (fun K hK => ?_); go_simp; refine hK _ ?_; clear hK K)
  refine Mix.mix_nil ?_
  go_wp2
  go_ret
  have ht5 : Touch w w5 (· = d) := ((Touch.of_below HB.out).trans HT1.out).trans (Touch.of_below HB5.out)
  have ht6 := ht5.trans (Touch.alloc w5 (.cells #[.int .i64 q.pk, .int .i64 F, .int .i64 (p.blocks.length : Int), slv dv, .int .i64 0, .int .i64 q.ord] 95) (· = d))
  rw [← HFF.out]
  refine ⟨One.mk5 ht5.size HD5.out, HR1.out.keep fun k hl _ => ?_, ht6⟩
  rw [Below.heap_alloc _ _ _ (Nat.lt_of_lt_of_le hl HB5.out.size)]
  exact HB5.out.block k hl
end Go.Proofs.Ytkdnkjjnmadhgaa.Dev

