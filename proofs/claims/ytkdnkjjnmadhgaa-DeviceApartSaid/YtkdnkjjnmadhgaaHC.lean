import Derived.Test.YtkdnkjjnmadhgaaGD
set_option linter.unusedVariables false
set_option linter.unusedSimpArgs false
/-! A clock does a request; whether a terminal, a clock has a request. -/
namespace Go.Proofs.Ytkdnkjjnmadhgaa.Dev
open Go.RowKit Go.Maps Go.Lib

set_option maxRecDepth 100000 in
theorem term_has (w : World) (v : Value) (x : Int) : Calls Try.prog 95 #[v, .int .i64 x] w fun e w' => e = .returned (.bool (decide (1 ≤ x ∧ x ≤ 2))) ∧ w' = w := by
  by_cases h1 : x = 1
  · subst h1
    go_enter Try.func95, Try.ntmps95
    go_wp2
    go_ret
    exact ⟨rfl, rfl⟩
  · by_cases h2 : x = 2
    · subst h2
      go_enter Try.func95, Try.ntmps95
      go_wp2
      go_ret
      exact ⟨rfl, rfl⟩
    · have hd : decide (1 ≤ x ∧ x ≤ 2) = false := by simp; omega
      rw [hd]
      clear hd
      have e1 : (x == 1) = false := by simpa using h1
      have e2 : (x == 2) = false := by simpa using h2
      go_enter Try.func95, Try.ntmps95
      go_wp2
      go_ret
      exact ⟨rfl, rfl⟩
theorem meth_has93 (v : Value) (w : World) : Sem.run Try.prog (method 257 93 v "bluebell/device.has") w = .ok (95, v) w := by kernel_rfl
theorem meth_send93 (v : Value) (w : World) : Sem.run Try.prog (method 257 93 v "bluebell/device.send") w = .ok (96, v) w := by kernel_rfl
theorem meth_nil93 (d : Nat) (w : World) : Sem.run Try.prog (nilAhead 257 93 (ptr d) "bluebell/device.send") w = .ok (some false) w := by kernel_rfl
theorem meth_has119 (v : Value) (w : World) : Sem.run Try.prog (method 257 119 v "bluebell/device.has") w = .ok (97, v) w := by kernel_rfl
theorem meth_send119 (v : Value) (w : World) : Sem.run Try.prog (method 257 119 v "bluebell/device.send") w = .ok (98, v) w := by kernel_rfl
set_option maxRecDepth 100000 in
theorem clock_has (w : World) (x : Int) : Calls Try.prog 97 #[.agg #[], .int .i64 x] w fun e w' => e = .returned (.bool (decide (1 ≤ x ∧ x ≤ 1))) ∧ Below w.heap.size w w' := by
  by_cases h1 : x = 1
  · subst h1
    go_enter Try.func97, Try.ntmps97
    go_wp2
    go_ret
    exact ⟨rfl, (Below.refl _ _).alloc (Nat.le_refl _) _⟩
  · have e1 : (x == 1) = false := by simpa using h1
    have e3 : decide (1 ≤ x ∧ x ≤ 1) = false := by simp; omega
    rw [e3]
    clear h1 e3
    go_enter Try.func97, Try.ntmps97
    go_wp2
    go_ret
    exact ⟨rfl, (Below.refl _ _).alloc (Nat.le_refl _) _⟩
/-- What a clock answers: the time, the result. -/
def clockF (q : Rq) : Int × Int := if q.a_ < 0 ∨ 1000000 < q.a_ then (q.at_, -1) else (q.at_ + q.a_, q.at_ + q.a_)
set_option maxHeartbeats 2000000 in
set_option maxRecDepth 100000 in
theorem clock_send (w : World) (B : Nat) (q : Rq) (hB : B ≤ w.heap.size) (h0 : 0 ≤ q.at_) (h1 : q.at_ ≤ 1000000000) :
    Calls Try.prog 98 #[.agg #[], .agg (encQ q).toArray] w fun e w' => One B w q (clockF q).1 (clockF q).2 [] e w' ∧ Below w.heap.size w w' := by
  obtain ⟨W, hW⟩ : ∃ W, W = (w.alloc (.cells #[] 119)).alloc (.cells #[.int .i64 q.pk, .int .i64 q.do_, .int .i64 q.a_, .int .i64 q.b_, .slice q.dv.1 q.dv.2.1 q.dv.2.2, .int .i64 q.at_, .int .i64 q.ord] 99) := ⟨_, rfl⟩
  have hbw : Below w.heap.size w W := by rw [hW]; exact ((Below.refl _ _).alloc (Nat.le_refl _) _).alloc (by simp) _
  have gb : Box W (w.heap.size + 1) q := by
    rw [hW]
    have := alloc_new (w.alloc (.cells #[] 119)) (.cells (encQ q).toArray 99)
    rwa [World.size_alloc] at this
  obtain ⟨z0, z1, z2, z3, z4, z5, z6⟩ := gb.all
  have hbox : (encQ q).toArray = #[.int .i64 q.pk, .int .i64 q.do_, .int .i64 q.a_, .int .i64 q.b_, .slice q.dv.1 q.dv.2.1 q.dv.2.2, .int .i64 q.at_, .int .i64 q.ord] := rfl
  have hB1 : B ≤ W.heap.size := Nat.le_trans hB hbw.size
  have k1 : 0 ≤ q.a_ → q.a_ ≤ 1000000 → IntKind.i64.wrap (q.at_ + q.a_) = q.at_ + q.a_ := fun a b => by rw [IntKind.wrap_i64]; omega
  have HB := Lib.hid hbw
  have HB1 := Lib.hid hB1
  have K1 := Lib.hid k1
  have HW := Lib.hid hW
  clear hbw gb hB h0 h1 hB1 k1
  unfold clockF
  by_cases hr : q.a_ < 0 ∨ 1000000 < q.a_
  · rw [if_pos hr]
    have C92 := Lib.hid (refuse_any W B q q.at_ 1 HB1.out (by decide))
    rw [hbox] at C92
    unfold encR at C92
    by_cases ha : q.a_ < 0
    · have d1 : decide (q.a_ < 0) = true := by simpa using ha
      clear hr ha
      generalize hQ : (Value.agg (encQ q).toArray) = Q
      go_enter Try.func98, Try.ntmps98
      subst hQ
      go_upto_region 1 with (fail)
      rw [← hW]
      clear hW
      go_wp2_with (go_at_call 92; (refine (C92.out).mono ?_); rintro e w5 ⟨dv, rfl, hb5, hd5⟩; have HB5 := Lib.hid hb5; have HD5 := Lib.hid hd5; clear hb5 hd5)
      go_ret
      exact ⟨One.mk5 (Nat.le_trans HB.out.size HB5.out.size) HD5.out, (HB.out.trans (HB5.out.mono HB.out.size)).alloc (Nat.le_trans HB.out.size HB5.out.size) _⟩
    · have d1 : decide (q.a_ < 0) = false := by simpa using ha
      have d2 : decide (1000000 < q.a_) = true := by simp; omega
      clear hr ha
      generalize hQ : (Value.agg (encQ q).toArray) = Q
      go_enter Try.func98, Try.ntmps98
      subst hQ
      go_upto_region 1 with (fail)
      rw [← hW]
      clear hW
      go_wp2_with (go_at_call 92; (refine (C92.out).mono ?_); rintro e w5 ⟨dv, rfl, hb5, hd5⟩; have HB5 := Lib.hid hb5; have HD5 := Lib.hid hd5; clear hb5 hd5)
      go_ret
      exact ⟨One.mk5 (Nat.le_trans HB.out.size HB5.out.size) HD5.out, (HB.out.trans (HB5.out.mono HB.out.size)).alloc (Nat.le_trans HB.out.size HB5.out.size) _⟩
  · rw [if_neg hr]
    have d1 : decide (q.a_ < 0) = false := by simp; omega
    have d2 : decide (1000000 < q.a_) = false := by simp; omega
    have k1 := K1.out (by omega) (by omega)
    have C91 := Lib.hid (answer_any W B q (q.at_ + q.a_) (q.at_ + q.a_) (none, 0, 0) [] Held.nil_ HB1.out (by simp))
    rw [hbox] at C91
    unfold encR at C91
    clear hr
    generalize hQ : (Value.agg (encQ q).toArray) = Q
    go_enter Try.func98, Try.ntmps98
    subst hQ
    go_upto_region 1 with (fail)
    rw [← hW]
    clear hW
    go_wp2_with (go_at_call 91; (refine (C91.out).mono ?_); rintro e w5 ⟨dv, rfl, hb5, hd5⟩; have HB5 := Lib.hid hb5; have HD5 := Lib.hid hd5; clear hb5 hd5)
    go_ret
    exact ⟨One.mk5 (Nat.le_trans HB.out.size HB5.out.size) HD5.out, (HB.out.trans (HB5.out.mono HB.out.size)).alloc (Nat.le_trans HB.out.size HB5.out.size) _⟩
end Go.Proofs.Ytkdnkjjnmadhgaa.Dev
