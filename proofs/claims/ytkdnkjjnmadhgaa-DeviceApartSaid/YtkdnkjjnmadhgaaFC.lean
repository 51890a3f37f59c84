import Derived.Test.YtkdnkjjnmadhgaaFB
set_option linter.unusedVariables false
set_option linter.unusedSimpArgs false
/-! A request is handed in, for a line; it waits. -/
namespace Go.Proofs.Ytkdnkjjnmadhgaa.Dev
open Go.RowKit Go.Maps Go.Lib Go.Sort
/-- What a bus is behind a request that has no reply. -/
def Send0P (B : Nat) (w : World) (b : Nat) (m : BM) (at_ dev : Int) (S : Nat → Prop) (Q : World → Prop) (w' : World) : Prop := ∃ w1 m', Q w1 ∧ (∃ c, w1.heap[b]? = some (.cells c 80 (0, 0))) ∧ Touch w w1 (fun k => S k ∨ k = b) ∧ Touch w1 w' (fun k => k = b ∨ oblock (slv m.vr) = some k) ∧ BRep B w' b m' ∧ Handed m m' at_ dev [] w1
set_option maxHeartbeats 20000000 in
set_option maxRecDepth 100000 in
/-- A request for a line is handed in, and has no reply. -/
theorem send_line0 (w : World) (B b d : Nat) (m : BM) (h : BRep B w b m) (dev at_ : Int) (hdev : 1 ≤ dev) (hd : m.ds[(dev - 1).toNat]? = some (.iface 125 (ptr d))) (pk do_ a_ b_ : Int) (dv : Sl)
    (hat : m.now ≤ at_) (hat1 : at_ ≤ 1000000000) (hdo : 1 ≤ do_ ∧ do_ ≤ 2) (hsent : 0 ≤ m.sent ∧ m.sent < 400) (hdata : dv.2.1 ≤ 4000)
    (S : Nat → Prop) (Q : World → Prop) (hSn : ∀ k, S k → k < w.heap.size) (hSb : ¬ S b) (hSd : ∀ g, (slv m.vd).ownBlock = some g → ¬ S g) (hSr : ∀ g, oblock (slv m.vr) = some g → ¬ S g) (hrs : m.rs.length ≤ 100000)
    (hsend : ∀ W', Touch w W' (· = b) → Calls Try.prog 100 #[ptr d, .agg (encQ ⟨pk, do_, a_, b_, dv, at_, m.sent⟩).toArray] W' fun e w'' => ∃ A c, e = .returned (.slice A 0 c) ∧ Touch W' w'' S ∧ Q w'') :
    Calls Try.prog 28 #[ptr b, .int .i64 dev, .int .i64 at_, .agg #[.int .i64 pk, .int .i64 do_, .int .i64 a_, .int .i64 b_, slv dv]] w fun e w' => e = .returned (.int .i64 0) ∧ Send0P B w b m at_ dev S Q w' := by
  have C33 := Lib.hid (fun (w' : World) (h' : BRep B w' b m) => device_some w' B b m h' dev hdev _ hd)
  have C99 := Lib.hid (fun (w' : World) (v : Value) => line_has w' v do_)
  have m1 := fun (w' : World) => meth_has125 (ptr d) w'
  have m2 := fun (w' : World) => meth_send125 (ptr d) w'
  have m3 := fun (w' : World) => meth_nil125 d w'
  have e1 := fun (args : Array Value) (w' : World) => enters_of Try.func99 (by decide) rfl args w'
  have e2 := fun (args : Array Value) (w' : World) => enters_of Try.func100 (by decide) rfl args w'
  rw [decide_eq_true hdo] at C99
  obtain ⟨W, hW⟩ : ∃ W, W = w.alloc (.cells #[.int .i64 pk, .int .i64 do_, .int .i64 a_, .int .i64 b_, slv dv] 41) := ⟨_, rfl⟩
  have hbw : Below w.heap.size w W := by rw [hW]; exact (Below.refl _ _).alloc (Nat.le_refl _) _
  have gb : W.heap[w.heap.size]? = some (.cells #[.int .i64 pk, .int .i64 do_, .int .i64 a_, .int .i64 b_, slv dv] 41 (0, 0)) := by rw [hW]; exact alloc_new _ _
  have hr : BRep B W b m := h.keep fun k hl _ => hbw.block k hl
  have hbl := blt h.cells
  have hne : w.heap.size ≠ b := by omega
  go_enter Try.func28, Try.ntmps28
  go_upto_region 3 with (fail)
  rw [← hW]
  have z0 : W.cell? ⟨w.heap.size, 0, none⟩ = some (.int .i64 pk) := (cell_of gb 0).trans rfl
  have z1 : W.cell? ⟨w.heap.size, 1, none⟩ = some (.int .i64 do_) := (cell_of gb 1).trans rfl
  have z2 : W.cell? ⟨w.heap.size, 2, none⟩ = some (.int .i64 a_) := (cell_of gb 2).trans rfl
  have z3 : W.cell? ⟨w.heap.size, 3, none⟩ = some (.int .i64 b_) := (cell_of gb 3).trans rfl
  have z4 : W.cell? ⟨w.heap.size, 4, none⟩ = some (slv dv) := (cell_of gb 4).trans rfl
  obtain ⟨c0, c1, c2, c3, c4⟩ := hr.all
  obtain ⟨f0, f1, f2, f3, f4⟩ := hr.frees
  have HR := Lib.hid hr
  have H := Lib.hid h
  have GB := Lib.hid gb
  have HB := Lib.hid hbw
  have t1 : decide (at_ < m.now) = false := by simpa using hat
  have t2 : decide (1000000000 < at_) = false := by simpa using hat1
  have t3 : (m.sent == 400) = false := by simp; omega
  have t4 : decide (4000 < (dv.2.1 : Int)) = false := by simp; omega
  have HDO := Lib.hid hdo
  have HRS := Lib.hid hrs
  have HS := Lib.hid hsent
  clear hr h gb hbw hW hat hat1 hdo hsent hdata hd hdev hrs
  go_upto_region 9 with (first | (go_at_call 33; (refine (C33.out _ HR.out).mono ?_); rintro e w1 ⟨rfl, hw1⟩; (obtain rfl : W = w1 := hw1.symm)) | (go_at_call 99; (refine (C99.out _ _).mono ?_); rintro e w1 ⟨rfl, hw1⟩; (obtain rfl : W = w1 := hw1.symm)))
  obtain ⟨W1, hW1⟩ : ∃ W1, W1 = W.setCell ⟨b, 1, none⟩ (.int .i64 at_) := ⟨_, rfl⟩
  rw [← hW1]
  have hr1 : BRep B W1 b { m with now := at_ } := by rw [hW1]; exact HR.out.now at_
  have gb1 : W1.heap[w.heap.size]? = some (.cells #[.int .i64 pk, .int .i64 do_, .int .i64 a_, .int .i64 b_, slv dv] 41 (0, 0)) := by rw [hW1]; exact (Below.heap_setCell W _ _ _ hne).trans GB.out
  have ht1 : Touch w W1 (· = b) := by rw [hW1]; exact (Touch.of_below HB.out).trans (Touch.setCell _ _ _ (S := (· = b)) rfl)
  clear z0 z1 z2 z3 z4 c0 c1 c2 c3 c4 f0 f1 f2 f3 f4 t1 t2 t3 t4 hW1 m1 e1
  have z0 : W1.cell? ⟨w.heap.size, 0, none⟩ = some (.int .i64 pk) := (cell_of gb1 0).trans rfl
  have z1 : W1.cell? ⟨w.heap.size, 1, none⟩ = some (.int .i64 do_) := (cell_of gb1 1).trans rfl
  have z2 : W1.cell? ⟨w.heap.size, 2, none⟩ = some (.int .i64 a_) := (cell_of gb1 2).trans rfl
  have z3 : W1.cell? ⟨w.heap.size, 3, none⟩ = some (.int .i64 b_) := (cell_of gb1 3).trans rfl
  have z4 : W1.cell? ⟨w.heap.size, 4, none⟩ = some (slv dv) := (cell_of gb1 4).trans rfl
  obtain ⟨c0, c1, c2, c3, c4⟩ := hr1.all
  have C100 := Lib.hid (hsend W1.drew (ht1.trans (Touch.drew _ _)))
  unfold encQ at C100
  have HR1 := Lib.hid hr1
  have GB1 := Lib.hid gb1
  have HT1 := Lib.hid ht1
  have HSN := Lib.hid hSn
  have HSB := Lib.hid hSb
  have HSD := Lib.hid hSd
  have HSR := Lib.hid hSr
  clear hr1 gb1 ht1 hsend hSn hSb hSd hSr
  obtain ⟨C, hCd⟩ : ∃ C : World → Prop, ∀ z, C z ↔ (z.cell? ⟨w.heap.size, 0, none⟩ = some (.int .i64 pk) ∧ z.cell? ⟨w.heap.size, 1, none⟩ = some (.int .i64 do_) ∧ z.cell? ⟨w.heap.size, 2, none⟩ = some (.int .i64 a_) ∧ z.cell? ⟨w.heap.size, 3, none⟩ = some (.int .i64 b_) ∧ z.cell? ⟨w.heap.size, 4, none⟩ = some (slv dv) ∧ z.cell? ⟨b, 2, none⟩ = some (.int .i64 m.sent)) := ⟨_, fun _ => Iff.rfl⟩
  have s0 := fun s : {z : World // C z} => ((hCd s.1).1 s.2).1
  have s1 := fun s : {z : World // C z} => ((hCd s.1).1 s.2).2.1
  have s2 := fun s : {z : World // C z} => ((hCd s.1).1 s.2).2.2.1
  have s3 := fun s : {z : World // C z} => ((hCd s.1).1 s.2).2.2.2.1
  have s4 := fun s : {z : World // C z} => ((hCd s.1).1 s.2).2.2.2.2.1
  have s5 := fun s : {z : World // C z} => ((hCd s.1).1 s.2).2.2.2.2.2
  have hC0 := (hCd W1.drew).2 ⟨z0, z1, z2, z3, z4, c2⟩
  haveI : Nonempty {z : World // C z} := ⟨⟨W1.drew, hC0⟩⟩
  refine Mix.wp_region_mix C [11] (by kernel_rfl) (by kernel_rfl) hC0 ?_
  have HCD := Lib.hid hCd
  have HC0 := Lib.hid hC0
  clear hCd hC0 z0 z1 z2 z3 z4 c0 c1 c2 c3 c4
  repeat (refine Mix.mix_still rfl (fun K hK => ?_); go_simp; refine hK _ ?_; clear hK K)
  refine Mix.mix_eff rfl ?_
  go_wp2_with (go_at_call 100; (refine (C100.out).mono ?_); rintro e w2 ⟨A0, c0, rfl, ht2, hq2⟩; have HT2 := Lib.hid ht2; have HQ2 := Lib.hid hq2; clear ht2 hq2)
  have hk2 : ∀ {k j : Nat} {x : Value}, W1.drew.cell? ⟨k, j, none⟩ = some x → ¬ S k → w2.cell? ⟨k, j, none⟩ = some x := fun hx hs => (World.cell?_of_block (a := ⟨_, _, none⟩) (HT2.out.block _ (lt_of_cell hx) hs)).trans hx
  have hsw : ¬ S w.heap.size := fun hs => Nat.lt_irrefl _ (HSN.out _ hs)
  obtain ⟨y0, y1, y2, y3, y4, y5⟩ := (HCD.out _).1 HC0.out
  refine ⟨(HCD.out _).2 ⟨hk2 y0 hsw, hk2 y1 hsw, hk2 y2 hsw, hk2 y3 hsw, hk2 y4 hsw, hk2 y5 HSB.out⟩, ?_⟩
  clear hk2 hsw y0 y1 y2 y3 y4 y5 s0 s1 s2 s3 s4 s5
  have hr2 : BRep B w2 b { m with now := at_ } := HR1.out.keep fun k hl ho => by
    refine HT2.out.block k hl ?_
    rcases ho with rfl | ho | ho
    · exact HSB.out
    · exact HSD.out k ho
    · exact HSR.out k ho
  have HR2 := Lib.hid hr2
  clear hr2
  repeat (refine Mix.mix_still rfl (fun K hK => ?_); go_simp; refine hK _ ?_; clear hK K)
  refine Mix.mix_nil ?_
  clear m2 m3 e2 C33 C99 C100
  go_wp2_with fail
  go_loopw [68] (fun i wr => i = .int .i64 0 ∧ wr = w2) (fun _ _ => 0)
  case atStart => exact ⟨rfl, rfl⟩
  case round =>
    as_aux_lemma =>
      obtain ⟨rfl, hwr⟩ := hrel
      subst hwr
      have hbr := HR2.out
      have d2 := hbr.all.2.2.1
      have d4 := hbr.all.2.2.2.2
      have g2 := hbr.frees.2.2.1
      have k1 : IntKind.i64.wrap (m.sent + 1) = m.sent + 1 := by have := HS.out; rw [IntKind.wrap_i64]; omega
      have hvn : m.vr.2.1 = m.rs.length := hbr.vrn
      obtain ⟨mvd, mds, mnow, msent, mtold, ⟨va, vn, vc⟩, mrs⟩ := m
      have hvn : vn = mrs.length := hvn
      subst hvn
      by_cases h0 : mrs.length = 0
      · as_aux_lemma =>
          have hmr : mrs = [] := List.eq_nil_of_length_eq_zero h0
          subst hmr
          have C43 := Lib.hid (fun w' => sort_nil w' va vc (.func (.func 44) #[] #[]))
          clear hbr h0
          go_wp2_with (go_at_call 43; (with_reducible refine (C43.out _).mono ?_); rintro e w10 ⟨rfl, hw10⟩; subst hw10)
          go_ret
          have hbr9 : BRep B (wr.setCell ⟨b, 2, none⟩ (.int .i64 (msent + 1))) b ⟨mvd, mds, at_, msent + 1, mtold, (va, 0, vc), []⟩ := by
            refine HR2.out.set at_ (msent + 1) mtold ?_ (fun k hl hd _ => Below.heap_setCell wr _ _ _ hd)
            have := set_same HR2.out.cells 2 (.int .i64 (msent + 1))
            simpa using this
          show _ ∧ Send0P _ _ _ _ _ _ _ _ _
          exact ⟨rfl, wr, _, HQ2.out, ⟨_, HR2.out.cells⟩, ((HT1.out.trans (Touch.drew _ _)).mono (fun k _ e => .inr e)).trans (HT2.out.mono (fun k _ e => .inl e)), Touch.setCell wr ⟨b, 2, none⟩ _ (.inl rfl), hbr9, rfl, rfl, rfl, rfl, rfl, .inl rfl, #[], rfl, permIn_refl _ _ _, fun i j _ _ h => by simp at h⟩
      · as_aux_lemma =>
          have hpos : 0 < mrs.length := by omega
          obtain ⟨g', off, hva, hgl', _, _⟩ := RowO.cell (A := va) (c := vc) hbr.rr hpos
          subst hva
          have hrow9 : RowO (wr.setCell ⟨b, 2, none⟩ (.int .i64 (msent + 1))) B 95 6 (.slice (some ⟨g', off, none⟩) mrs.length vc) mrs.length (mrs.flatMap encR) := hbr.rr.keep fun k hk _ => Below.heap_setCell wr _ _ _ (fun e => hbr.vr_ne (by have e : k = b := e; rw [← e]; exact hk))
          have hlen : mrs.length ≤ 100000 := HRS.out
          have d4 : wr.cell? ⟨b, 4, none⟩ = some (.slice (some ⟨g', off, none⟩) mrs.length vc) := d4
          have d2 : wr.cell? ⟨b, 2, none⟩ = some (.int .i64 msent) := d2
          have C43 := Lib.hid (sort_any g' off vc mrs.length mrs.toArray (wr.setCell ⟨b, 2, none⟩ (.int .i64 (msent + 1))) (hrow9.holdsK rfl hpos) (by simp [World.setCell]; exact hgl') (by simp) (by omega))
          have HP := Lib.hid hpos
          clear hbr hpos hlen hgl' hrow9 h0
          go_wp2_with (go_at_call 43; (with_reducible refine (C43.out).mono ?_); rintro e w10 ⟨rfl, dk, hM, hS⟩; have HM := Lib.hid hM; have HSW := Lib.hid hS; clear hM hS)
          go_ret
          obtain ⟨ht, m', hm', hh'⟩ := hand_end (m := ⟨mvd, mds, mnow, msent, mtold, (some ⟨g', off, none⟩, mrs.length, vc), mrs⟩) (l := []) (dev := dev) (at_ := at_) (rs := mrs) (n := mrs.length) (cap := vc) HR2.out (by simp) rfl HP.out (Touch.refl _ _) (.inl rfl) HM.out HSW.out
          show _ ∧ Send0P _ _ _ _ _ _ _ _ _
          exact ⟨rfl, wr, m', HQ2.out, ⟨_, HR2.out.cells⟩, ((HT1.out.trans (Touch.drew _ _)).mono (fun k _ e => .inr e)).trans (HT2.out.mono (fun k _ e => .inl e)), ht, hm', hh'⟩
end Go.Proofs.Ytkdnkjjnmadhgaa.Dev
