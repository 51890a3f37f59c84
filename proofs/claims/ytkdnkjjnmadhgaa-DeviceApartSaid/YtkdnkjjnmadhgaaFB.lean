import Derived.Test.YtkdnkjjnmadhgaaDL
import Derived.Test.YtkdnkjjnmadhgaaFA
set_option linter.unusedVariables false
set_option linter.unusedSimpArgs false
/-! A request is handed in, for a line. -/
namespace Go.Proofs.Ytkdnkjjnmadhgaa.Dev
open Go.RowKit Go.Maps Go.Lib

set_option maxRecDepth 100000 in
theorem line_has (w : World) (v : Value) (x : Int) : Calls Try.prog 99 #[v, .int .i64 x] w fun e w' => e = .returned (.bool (decide (1 ≤ x ∧ x ≤ 2))) ∧ w' = w := by
  by_cases h1 : x = 1
  · subst h1
    go_enter Try.func99, Try.ntmps99
    go_wp2
    go_ret
    exact ⟨rfl, rfl⟩
  · by_cases h2 : x = 2
    · subst h2
      go_enter Try.func99, Try.ntmps99
      go_wp2
      go_ret
      exact ⟨rfl, rfl⟩
    · have hd : decide (1 ≤ x ∧ x ≤ 2) = false := by simp; omega
      rw [hd]
      clear hd
      have e1 : (x == 1) = false := by simpa using h1
      have e2 : (x == 2) = false := by simpa using h2
      go_enter Try.func99, Try.ntmps99
      go_wp2
      go_ret
      exact ⟨rfl, rfl⟩
theorem meth_has125 (v : Value) (w : World) : Sem.run Try.prog (method 257 125 v "bluebell/device.has") w = .ok (99, v) w := by kernel_rfl
theorem meth_send125 (v : Value) (w : World) : Sem.run Try.prog (method 257 125 v "bluebell/device.send") w = .ok (100, v) w := by kernel_rfl
theorem meth_nil125 (d : Nat) (w : World) : Sem.run Try.prog (nilAhead 257 125 (ptr d) "bluebell/device.send") w = .ok (some false) w := by kernel_rfl

set_option maxHeartbeats 20000000 in
set_option maxRecDepth 100000 in
/-- A request for a line is handed in, and has one reply. -/
theorem send_line (w : World) (B b d : Nat) (m : BM) (h : BRep B w b m) (dev at_ : Int) (hdev : 1 ≤ dev) (hd : m.ds[(dev - 1).toNat]? = some (.iface 125 (ptr d))) (pk do_ a_ b_ : Int) (dv : Sl)
    (hat : m.now ≤ at_) (hat1 : at_ ≤ 1000000000) (hdo : 1 ≤ do_ ∧ do_ ≤ 2) (hsent : 0 ≤ m.sent ∧ m.sent < 400) (hdata : dv.2.1 ≤ 4000)
    (S : Nat → Prop) (Q : World → List Rp → Prop) (hSn : ∀ k, S k → k < w.heap.size) (hSb : ¬ S b) (hSd : ∀ g, (slv m.vd).ownBlock = some g → ¬ S g) (hSr : ∀ g, oblock (slv m.vr) = some g → ¬ S g) (hrs : m.rs.length ≤ 100000)
    (hsend : ∀ W', Touch w W' (· = b) → Calls Try.prog 100 #[ptr d, .agg (encQ ⟨pk, do_, a_, b_, dv, at_, m.sent⟩).toArray] W' fun e w'' => ∃ l v, e = .returned v ∧ l ≠ [] ∧ l.length ≤ 1000 ∧ Gave W' w'' v l ∧ Touch W' w'' S ∧ Q w'' l) :
    Calls Try.prog 28 #[ptr b, .int .i64 dev, .int .i64 at_, .agg #[.int .i64 pk, .int .i64 do_, .int .i64 a_, .int .i64 b_, slv dv]] w fun e w' => e = .returned (.int .i64 0) ∧ ∃ l w1 m', Q w1 l ∧ (∃ c, w1.heap[b]? = some (.cells c 80 (0, 0))) ∧ Touch w w1 (fun k => S k ∨ k = b) ∧ Touch w1 w' (fun k => k = b ∨ oblock (slv m.vr) = some k) ∧ BRep B w' b m' ∧ Handed m m' at_ dev l w1 := by
  have C33 := Lib.hid (fun (w' : World) (h' : BRep B w' b m) => device_some w' B b m h' dev hdev _ hd)
  have C99 := Lib.hid (fun (w' : World) (v : Value) => line_has w' v do_)
  have m1 := fun (w' : World) => meth_has125 (ptr d) w'
  have m2 := fun (w' : World) => meth_send125 (ptr d) w'
  have m3 := fun (w' : World) => meth_nil125 d w'
  have e1 := fun (args : Array Value) (w' : World) => enters_of Try.func99 (by decide) rfl args w'
  have e2 := fun (args : Array Value) (w' : World) => enters_of Try.func100 (by decide) rfl args w'
  rw [decide_eq_true hdo] at C99
  obtain ⟨W, hW⟩ : ∃ W, W = w.alloc (.cells #[.int .i64 pk, .int .i64 do_, .int .i64 a_, .int .i64 b_, slv dv] 41) := ⟨_, rfl⟩
  have hbw : Below w.heap.size w W := by rw [hW]; exact (Below.refl _ _).alloc (Nat.le_refl _) _
  have gb : W.heap[w.heap.size]? = some (.cells #[.int .i64 pk, .int .i64 do_, .int .i64 a_, .int .i64 b_, slv dv] 41 (0, 0)) := by rw [hW]; exact alloc_new _ _
  have hr : BRep B W b m := h.keep fun k hl _ => hbw.block k hl
  have hbl := blt h.cells
  have hne : w.heap.size ≠ b := by omega
  go_enter Try.func28, Try.ntmps28
  go_upto_region 3 with (fail)
  rw [← hW]
  have z0 : W.cell? ⟨w.heap.size, 0, none⟩ = some (.int .i64 pk) := (cell_of gb 0).trans rfl
  have z1 : W.cell? ⟨w.heap.size, 1, none⟩ = some (.int .i64 do_) := (cell_of gb 1).trans rfl
  have z2 : W.cell? ⟨w.heap.size, 2, none⟩ = some (.int .i64 a_) := (cell_of gb 2).trans rfl
  have z3 : W.cell? ⟨w.heap.size, 3, none⟩ = some (.int .i64 b_) := (cell_of gb 3).trans rfl
  have z4 : W.cell? ⟨w.heap.size, 4, none⟩ = some (slv dv) := (cell_of gb 4).trans rfl
  obtain ⟨c0, c1, c2, c3, c4⟩ := hr.all
  obtain ⟨f0, f1, f2, f3, f4⟩ := hr.frees
  have HR := Lib.hid hr
  have H := Lib.hid h
  have GB := Lib.hid gb
  have HB := Lib.hid hbw
  have t1 : decide (at_ < m.now) = false := by simpa using hat
  have t2 : decide (1000000000 < at_) = false := by simpa using hat1
  have t3 : (m.sent == 400) = false := by simp; omega
  have t4 : decide (4000 < (dv.2.1 : Int)) = false := by simp; omega
  have HDO := Lib.hid hdo
  have HRS := Lib.hid hrs
  have HS := Lib.hid hsent
  clear hr h gb hbw hW hat hat1 hdo hsent hdata hd hdev hrs
  go_upto_region 9 with (first | (go_at_call 33; (refine (C33.out _ HR.out).mono ?_); rintro e w1 ⟨rfl, hw1⟩; (obtain rfl : W = w1 := hw1.symm)) | (go_at_call 99; (refine (C99.out _ _).mono ?_); rintro e w1 ⟨rfl, hw1⟩; (obtain rfl : W = w1 := hw1.symm)))
  obtain ⟨W1, hW1⟩ : ∃ W1, W1 = W.setCell ⟨b, 1, none⟩ (.int .i64 at_) := ⟨_, rfl⟩
  rw [← hW1]
  have hr1 : BRep B W1 b { m with now := at_ } := by rw [hW1]; exact HR.out.now at_
  have gb1 : W1.heap[w.heap.size]? = some (.cells #[.int .i64 pk, .int .i64 do_, .int .i64 a_, .int .i64 b_, slv dv] 41 (0, 0)) := by rw [hW1]; exact (Below.heap_setCell W _ _ _ hne).trans GB.out
  have ht1 : Touch w W1 (· = b) := by rw [hW1]; exact (Touch.of_below HB.out).trans (Touch.setCell _ _ _ (S := (· = b)) rfl)
  clear z0 z1 z2 z3 z4 c0 c1 c2 c3 c4 f0 f1 f2 f3 f4 t1 t2 t3 t4 hW1 m1 e1
  have z0 : W1.cell? ⟨w.heap.size, 0, none⟩ = some (.int .i64 pk) := (cell_of gb1 0).trans rfl
  have z1 : W1.cell? ⟨w.heap.size, 1, none⟩ = some (.int .i64 do_) := (cell_of gb1 1).trans rfl
  have z2 : W1.cell? ⟨w.heap.size, 2, none⟩ = some (.int .i64 a_) := (cell_of gb1 2).trans rfl
  have z3 : W1.cell? ⟨w.heap.size, 3, none⟩ = some (.int .i64 b_) := (cell_of gb1 3).trans rfl
  have z4 : W1.cell? ⟨w.heap.size, 4, none⟩ = some (slv dv) := (cell_of gb1 4).trans rfl
  obtain ⟨c0, c1, c2, c3, c4⟩ := hr1.all
  have C100 := Lib.hid (hsend W1.drew (ht1.trans (Touch.drew _ _)))
  unfold encQ at C100
  have HR1 := Lib.hid hr1
  have GB1 := Lib.hid gb1
  have HT1 := Lib.hid ht1
  have HSN := Lib.hid hSn
  have HSB := Lib.hid hSb
  have HSD := Lib.hid hSd
  have HSR := Lib.hid hSr
  clear hr1 gb1 ht1 hsend hSn hSb hSd hSr
  obtain ⟨C, hCd⟩ : ∃ C : World → Prop, ∀ z, C z ↔ (z.cell? ⟨w.heap.size, 0, none⟩ = some (.int .i64 pk) ∧ z.cell? ⟨w.heap.size, 1, none⟩ = some (.int .i64 do_) ∧ z.cell? ⟨w.heap.size, 2, none⟩ = some (.int .i64 a_) ∧ z.cell? ⟨w.heap.size, 3, none⟩ = some (.int .i64 b_) ∧ z.cell? ⟨w.heap.size, 4, none⟩ = some (slv dv) ∧ z.cell? ⟨b, 2, none⟩ = some (.int .i64 m.sent)) := ⟨_, fun _ => Iff.rfl⟩
  have s0 := fun s : {z : World // C z} => ((hCd s.1).1 s.2).1
  have s1 := fun s : {z : World // C z} => ((hCd s.1).1 s.2).2.1
  have s2 := fun s : {z : World // C z} => ((hCd s.1).1 s.2).2.2.1
  have s3 := fun s : {z : World // C z} => ((hCd s.1).1 s.2).2.2.2.1
  have s4 := fun s : {z : World // C z} => ((hCd s.1).1 s.2).2.2.2.2.1
  have s5 := fun s : {z : World // C z} => ((hCd s.1).1 s.2).2.2.2.2.2
  have hC0 := (hCd W1.drew).2 ⟨z0, z1, z2, z3, z4, c2⟩
  haveI : Nonempty {z : World // C z} := ⟨⟨W1.drew, hC0⟩⟩
  refine Mix.wp_region_mix C [11] (by kernel_rfl) (by kernel_rfl) hC0 ?_
  have HCD := Lib.hid hCd
  have HC0 := Lib.hid hC0
  clear hCd hC0 z0 z1 z2 z3 z4 c0 c1 c2 c3 c4
  repeat (refine Mix.mix_still rfl (fun K hK => ?_); go_simp; refine hK _ ?_; clear hK K)
  refine Mix.mix_eff rfl ?_
  go_wp2_with (go_at_call 100; (refine (C100.out).mono ?_); rintro e w2 ⟨l, v, rfl, hl0, hl1, hg2, ht2, hq2⟩; have HL0 := Lib.hid hl0; have HL1 := Lib.hid hl1; have HG2 := Lib.hid hg2; have HT2 := Lib.hid ht2; have HQ2 := Lib.hid hq2; clear hl0 hl1 hg2 ht2 hq2)
  have hk2 : ∀ {k j : Nat} {x : Value}, W1.drew.cell? ⟨k, j, none⟩ = some x → ¬ S k → w2.cell? ⟨k, j, none⟩ = some x := fun hx hs => (World.cell?_of_block (a := ⟨_, _, none⟩) (HT2.out.block _ (lt_of_cell hx) hs)).trans hx
  have hsw : ¬ S w.heap.size := fun hs => Nat.lt_irrefl _ (HSN.out _ hs)
  obtain ⟨y0, y1, y2, y3, y4, y5⟩ := (HCD.out _).1 HC0.out
  refine ⟨(HCD.out _).2 ⟨hk2 y0 hsw, hk2 y1 hsw, hk2 y2 hsw, hk2 y3 hsw, hk2 y4 hsw, hk2 y5 HSB.out⟩, ?_⟩
  clear hk2 hsw y0 y1 y2 y3 y4 y5 s0 s1 s2 s3 s4 s5
  have hr2 : BRep B w2 b { m with now := at_ } := HR1.out.keep fun k hl ho => by
    refine HT2.out.block k hl ?_
    rcases ho with rfl | ho | ho
    · exact HSB.out
    · exact HSD.out k ho
    · exact HSR.out k ho
  obtain ⟨g, gc, cur, rfl, hgl, hg, hcur⟩ := HG2.out.row
  have HR2 := Lib.hid hr2
  have HGL := Lib.hid hgl
  have HGR := Lib.hid hg
  have HGM := Lib.hid (show oblock (slv m.vr) ≠ some g from fun e => by
    obtain ⟨_, cur, hh⟩ := H.out.rr.block e
    have := blt hh
    have := HT1.out.size
    have : W1.drew.heap.size = W1.heap.size := rfl
    omega)
  have HCUR := Lib.hid hcur
  clear hr2 hgl hg hcur
  repeat (refine Mix.mix_still rfl (fun K hK => ?_); go_simp; refine hK _ ?_; clear hK K)
  refine Mix.mix_nil ?_
  clear m2 m3 e2 C33 C99 C100
  go_wp2_with fail
  obtain ⟨i0, hi, hz0, hz1, hz2⟩ := info_parts infoA95
  go_loopw [68] (fun i wr => ∃ j : Nat, j ≤ l.length ∧ i = .int .i64 j ∧ SendL B b g cur m l at_ dev w2 wr j)
    (fun i _ => l.length - (intOf i).toNat)
  case atStart => exact ⟨0, Nat.zero_le _, rfl, m.vr, by simpa using HR2.out, HGR.out, Touch.refl _ _, .inl rfl⟩
  case round =>
    as_aux_lemma =>
      obtain ⟨j, hj, rfl, vr, hbr, hgr, htr, hvr⟩ := hrel
      by_cases hlt : j < l.length
      · as_aux_lemma =>
          have hd : decide ((j : Int) < (l.length : Int)) = true := by simpa using hlt
          obtain ⟨x, hx⟩ : ∃ x, l[j]? = some x := ⟨_, List.getElem?_eq_getElem hlt⟩
          have hxc : ∀ i, i < 6 → wr.cell? ⟨g, j * 6 + i, none⟩ = (encR x)[i]? := fun i hi6 => by
            rw [cell_of hgr]
            exact HCUR.out j x hx i hi6
          obtain ⟨xp, xa, xr, xv, xd, xo⟩ := x
          have x0 : wr.cell? ⟨g, j * 6, none⟩ = some (.int .i64 xp) := hxc 0 (by omega)
          have x1 : wr.cell? ⟨g, j * 6 + 1, none⟩ = some (.int .i64 xa) := hxc 1 (by omega)
          have x2 : wr.cell? ⟨g, j * 6 + 2, none⟩ = some (.int .i64 xr) := hxc 2 (by omega)
          have x3 : wr.cell? ⟨g, j * 6 + 3, none⟩ = some (slv xv) := hxc 3 (by omega)
          have x4 : wr.cell? ⟨g, j * 6 + 4, none⟩ = some (.int .i64 xd) := hxc 4 (by omega)
          have x5 : wr.cell? ⟨g, j * 6 + 5, none⟩ = some (.int .i64 xo) := hxc 5 (by omega)
          have HBR := Lib.hid hbr
          have HGR2 := Lib.hid hgr
          have HTR := Lib.hid htr
          have HVR := Lib.hid hvr
          have HX := Lib.hid hx
          clear hbr hgr htr hvr hx hxc
          go_upto_region 13 with (fail)
          obtain ⟨W5, hW5⟩ : ∃ W5, W5 = wr.alloc (.cells #[.int .i64 xp, .int .i64 xa, .int .i64 xr, .slice xv.1 xv.2.1 xv.2.2, .int .i64 dev, .int .i64 xo] 95) := ⟨_, rfl⟩
          rw [← hW5]
          have hn5 : W5.heap[wr.heap.size]? = some (.cells #[.int .i64 xp, .int .i64 xa, .int .i64 xr, .slice xv.1 xv.2.1 xv.2.2, .int .i64 dev, .int .i64 xo] 95 (0, 0)) := by rw [hW5]; exact alloc_new _ _
          have hb5 : Below wr.heap.size wr W5 := by rw [hW5]; exact (Below.refl _ _).alloc (Nat.le_refl _) _
          have hr5 : BRep B W5 b { m with now := at_, vr := vr, rs := m.rs ++ (l.take j).map (withDev dev) } := HBR.out.keep fun k hl _ => hb5.block k hl
          have n0 : W5.cell? ⟨wr.heap.size, 0, none⟩ = some (.int .i64 xp) := (cell_of hn5 0).trans rfl
          have n1 : W5.cell? ⟨wr.heap.size, 1, none⟩ = some (.int .i64 xa) := (cell_of hn5 1).trans rfl
          have n2 : W5.cell? ⟨wr.heap.size, 2, none⟩ = some (.int .i64 xr) := (cell_of hn5 2).trans rfl
          have n3 : W5.cell? ⟨wr.heap.size, 3, none⟩ = some (.slice xv.1 xv.2.1 xv.2.2) := (cell_of hn5 3).trans rfl
          have n4 : W5.cell? ⟨wr.heap.size, 4, none⟩ = some (.int .i64 dev) := (cell_of hn5 4).trans rfl
          have n5 : W5.cell? ⟨wr.heap.size, 5, none⟩ = some (.int .i64 xo) := (cell_of hn5 5).trans rfl
          have v4 : W5.cell? ⟨b, 4, none⟩ = some (.slice vr.1 vr.2.1 vr.2.2) := hr5.all.2.2.2.2
          have HB5 := Lib.hid hb5
          have HR5 := Lib.hid hr5
          have HN5 := Lib.hid hn5
          clear hW5 hn5 hb5 hr5 x0 x1 x2 x3 x4 x5
          obtain ⟨C2, hCd⟩ : ∃ C2 : World → Prop, ∀ z, C2 z ↔ (z.cell? ⟨wr.heap.size, 0, none⟩ = some (.int .i64 xp) ∧ z.cell? ⟨wr.heap.size, 1, none⟩ = some (.int .i64 xa) ∧ z.cell? ⟨wr.heap.size, 2, none⟩ = some (.int .i64 xr) ∧ z.cell? ⟨wr.heap.size, 3, none⟩ = some (.slice xv.1 xv.2.1 xv.2.2) ∧ z.cell? ⟨wr.heap.size, 4, none⟩ = some (.int .i64 dev) ∧ z.cell? ⟨wr.heap.size, 5, none⟩ = some (.int .i64 xo) ∧ z.cell? ⟨b, 4, none⟩ = some (.slice vr.1 vr.2.1 vr.2.2)) := ⟨_, fun _ => Iff.rfl⟩
          have s0 := fun s : {z : World // C2 z} => ((hCd s.1).1 s.2).1
          have s1 := fun s : {z : World // C2 z} => ((hCd s.1).1 s.2).2.1
          have s2 := fun s : {z : World // C2 z} => ((hCd s.1).1 s.2).2.2.1
          have s3 := fun s : {z : World // C2 z} => ((hCd s.1).1 s.2).2.2.2.1
          have s4 := fun s : {z : World // C2 z} => ((hCd s.1).1 s.2).2.2.2.2.1
          have s5 := fun s : {z : World // C2 z} => ((hCd s.1).1 s.2).2.2.2.2.2.1
          have s6 := fun s : {z : World // C2 z} => ((hCd s.1).1 s.2).2.2.2.2.2.2
          have hC2 := (hCd W5.drew).2 ⟨n0, n1, n2, n3, n4, n5, v4⟩
          haveI : Nonempty {z : World // C2 z} := ⟨⟨W5.drew, hC2⟩⟩
          refine Mix.wp_region_mix C2 [6, 7, 10] (by kernel_rfl) (by kernel_rfl) hC2 ?_
          have HCD2 := Lib.hid hCd
          clear hCd hC2
          repeat (refine Mix.mix_still rfl (fun K hK => ?_); go_simp; refine hK _ ?_; clear hK K)
          refine Mix.mix_eff rfl ?_
          refine wpList_build1 _ rfl (.tmp 79) 78 95 rfl #[.int .i64 xp, .int .i64 xa, .int .i64 xr, .slice xv.1 xv.2.1 xv.2.2, .int .i64 dev, .int .i64 xo] rfl (build95 _ _ _ _ _ _ _) ?_
          refine wpList_nil ⟨rfl, .inr ((HCD2.out _).2 ⟨Lib.cell?_alloc_some (W := W5) _ n0, Lib.cell?_alloc_some (W := W5) _ n1, Lib.cell?_alloc_some (W := W5) _ n2, Lib.cell?_alloc_some (W := W5) _ n3, Lib.cell?_alloc_some (W := W5) _ n4, Lib.cell?_alloc_some (W := W5) _ n5, Lib.cell?_alloc_some (W := W5) _ v4⟩), ?_⟩
          refine Mix.mix_eff rfl ?_
          obtain ⟨rs, hrs⟩ : ∃ rs, rs = m.rs ++ (l.take j).map (withDev dev) := ⟨_, rfl⟩
          have hR5 := HR5.out
          have hRB := HBR.out
          rw [← hrs] at hR5 hRB
          have hvn : vr.2.1 = rs.length := hR5.vrn
          have hrl : rs.length ≤ 200000 := by rw [hrs]; have := HRS.out; have := HL1.out; simp; omega
          obtain ⟨W6, hW6⟩ : ∃ W6, W6 = W5.drew.alloc (.cells #[.int .i64 xp, .int .i64 xa, .int .i64 xr, .slice xv.1 xv.2.1 xv.2.2, .int .i64 dev, .int .i64 xo] 95) := ⟨_, rfl⟩
          have hn6 : W6.heap[W5.heap.size]? = some (.cells #[.int .i64 xp, .int .i64 xa, .int .i64 xr, .slice xv.1 xv.2.1 xv.2.2, .int .i64 dev, .int .i64 xo] 95 (0, 0)) := by rw [hW6]; exact alloc_new W5.drew _
          have hb6 : Below W5.heap.size W5 W6 := by rw [hW6]; exact ((Below.refl W5.heap.size W5).drew).alloc (Nat.le_refl _) _
          have hr6 := hR5.rr.keep (w' := W6) fun k _ hl => hb6.block k hl
          have hlo : B ≤ W6.heap.size := by
            have := hR5.low
            have := blt hR5.cells
            have := hb6.size
            omega
          rw [← hW6]
          refine wpList_append_off _ rfl _ _ 78 rfl B 95 i0 (.agg #[.int .i64 0, .int .i64 0, .int .i64 0, .slice none 0 0, .int .i64 0, .int .i64 0]) 6 64 Try.underlying78 hi hz0 hz1 hz2 rfl (by decide) (slv vr) rs.length (rs.flatMap encR) rfl hr6 W6.heap.size (some ⟨W5.heap.size, 0, none⟩) 1 1 (encR ⟨xp, xa, xr, xv, dev, xo⟩) rfl ?rd ?one (by unfold maxLen; omega) (by omega) hlo ?_
          case rd => exact ⟨rfl, fun _ => ⟨_, rfl, blt hn6, fun i u hu => by rw [Addr.add_lit, Nat.zero_add, cell_of hn6]; simpa [encR] using hu⟩⟩
          case one => exact encR_one _
          intro v' w7 hrow7 hgrow7 hloc7
          obtain ⟨A', c', rfl⟩ := hrow7.form
          have hbl7 : ∀ k, k < W5.heap.size → oblock (slv vr) ≠ some k → w7.heap[k]? = W5.heap[k]? := fun k hk hne => (hgrow7.block k (Nat.lt_of_lt_of_le hk hb6.size) (fun e => hne e.symm)).trans (hb6.block k hk)
          have hnb : oblock (slv vr) ≠ some b := fun e => by
            obtain ⟨_, cur, hh⟩ := hR5.rr.block e
            rw [hR5.cells] at hh
            simp at hh
          have hnn : oblock (slv vr) ≠ some wr.heap.size := fun e => by
            obtain ⟨_, cur, hh⟩ := hRB.rr.block e
            exact Nat.lt_irrefl _ (blt hh)
          have hb7 := (hbl7 b (blt hR5.cells) hnb).trans hR5.cells
          have hn7 := (hbl7 _ (blt HN5.out) hnn).trans HN5.out
          have q4 : w7.cell? ⟨b, 4, none⟩ = some (.slice vr.1 vr.2.1 vr.2.2) := (cell_of hb7 4).trans rfl
          have qf : w7.frozen? ⟨b, 4, none⟩ = false := free_of hb7 4
          refine wpList_nil ⟨rfl, .inr ((HCD2.out _).2 ⟨(cell_of hn7 0).trans rfl, (cell_of hn7 1).trans rfl, (cell_of hn7 2).trans rfl, (cell_of hn7 3).trans rfl, (cell_of hn7 4).trans rfl, (cell_of hn7 5).trans rfl, q4⟩), ?_⟩
          have HROW := Lib.hid hrow7
          have HGROW := Lib.hid hgrow7
          have HLOC := Lib.hid hloc7
          have HBL7 := Lib.hid hbl7
          have HB7 := Lib.hid hb7
          have HR5' := Lib.hid hR5
          have HNB := Lib.hid hnb
          have HB6 := Lib.hid hb6
          have HRSE := Lib.hid hrs
          clear hrow7 hgrow7 hloc7 hbl7 hb7 hn7 hR5 hRB hnb hnn hb6 hr6 hn6 hW6 hrs hlo hvn hrl n0 n1 n2 n3 n4 n5 v4
          repeat (refine Mix.mix_still rfl (fun K hK => ?_); go_simp; refine hK _ ?_; clear hK K)
          refine Mix.mix_eff rfl ?_
          go_wp2_with fail
          refine Mix.mix_nil ?_
          go_wp2_with fail
          have hl1 := HL1.out
          go_roundw
          case rel =>
            have hl1 := HL1.out
            refine ⟨j + 1, hlt, ?_, ?_⟩
            · have : wrap64 ((j : Int) + 1) = ((j + 1 : Nat) : Int) := by unfold wrap64; omega
              rw [this]
            refine SendL.next (x := ⟨xp, xa, xr, xv, xd, xo⟩) (sv := (A', rs.length + 1, c')) HR5'.out HRSE.out ((HB5.out.block g (blt HGR2.out)).trans HGR2.out) (HTR.out.trans (Touch.of_below HB5.out)) HVR.out HX.out HGM.out (blt HGR.out) HROW.out ((Touch.of_below HB6.out).andThen (Touch.grown HGROW.out) (fun k _ e => e.symm)) ?_
            rcases HLOC.out with e | e
            · exact .inl e
            · exact .inr ⟨_, e, HB6.out.size⟩
          case measure =>
            have e : wrap64 ((j : Int) + 1) = ((j + 1 : Nat) : Int) := by
              have := HL1.out
              unfold wrap64; omega
            show l.length - (intOf (.int .i64 (wrap64 ((j : Int) + 1)))).toNat < l.length - (intOf (.int .i64 (j : Int))).toNat
            rw [e]
            show l.length - (j + 1) < l.length - j
            omega
      · as_aux_lemma =>
          have hjn : j = l.length := by omega
          subst hjn
          have hd : decide ((l.length : Int) < (l.length : Int)) = false := by simp
          have HBR := Lib.hid hbr
          have HTR := Lib.hid htr
          have HVR := Lib.hid hvr
          have d2 := hbr.all.2.2.1
          have d4 := hbr.all.2.2.2.2
          have g2 := hbr.frees.2.2.1
          clear hbr hgr htr hvr
          obtain ⟨va, vn, vc⟩ := vr
          obtain ⟨rs, hrs⟩ : ∃ rs, rs = m.rs ++ (l.take l.length).map (withDev dev) := ⟨_, rfl⟩
          have hbr := HBR.out
          rw [← hrs] at hbr
          have hvn : vn = rs.length := hbr.vrn
          have hpos : 0 < rs.length := by
            have := List.length_pos_iff.2 HL0.out
            rw [hrs]; simp; omega
          have hlen : rs.length ≤ 200000 := by rw [hrs]; have := HRS.out; have := HL1.out; simp; omega
          subst hvn
          obtain ⟨g', off, hva, hgl', _, _⟩ := RowO.cell (A := va) (c := vc) hbr.rr hpos
          subst hva
          have hrow9 : RowO (wr.setCell ⟨b, 2, none⟩ (.int .i64 (m.sent + 1))) B 95 6 (.slice (some ⟨g', off, none⟩) rs.length vc) rs.length (rs.flatMap encR) := hbr.rr.keep fun k hk _ => Below.heap_setCell wr _ _ _ (fun e => hbr.vr_ne (by have e : k = b := e; rw [← e]; exact hk))
          have C43 := Lib.hid (sort_any g' off vc rs.length rs.toArray (wr.setCell ⟨b, 2, none⟩ (.int .i64 (m.sent + 1))) (hrow9.holdsK rfl hpos) (by simp [World.setCell]; exact hgl') (by simp) (by omega))
          have k1 : IntKind.i64.wrap (m.sent + 1) = m.sent + 1 := by have := HS.out; rw [IntKind.wrap_i64]; omega
          have HBR2 := Lib.hid hbr
          have HRE := Lib.hid (show rs = m.rs ++ l.map (withDev dev) by rw [hrs, List.take_length])
          have HP := Lib.hid hpos
          clear hbr hrs hpos hlen hgl' hrow9 HBR
          go_wp2_with (go_at_call 43; (refine (C43.out).mono ?_); rintro e w10 ⟨rfl, dk, hM, hS⟩; have HM := Lib.hid hM; have HSW := Lib.hid hS; clear hM hS)
          go_ret
          obtain ⟨ht, m', hm', hh'⟩ := hand_end HBR2.out HRE.out rfl HP.out HTR.out HVR.out HM.out HSW.out
          exact ⟨rfl, l, w2, m', HQ2.out, ⟨_, HR2.out.cells⟩, ((HT1.out.trans (Touch.drew _ _)).mono (fun k _ e => .inr e)).trans (HT2.out.mono (fun k _ e => .inl e)), ht, hm', hh'⟩
end Go.Proofs.Ytkdnkjjnmadhgaa.Dev
