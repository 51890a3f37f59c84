import Derived.Test.YtkdnkjjnmadhgaaHA
set_option linter.unusedVariables false
set_option linter.unusedSimpArgs false
/-! A terminal does a request. (Printed by mk_hb.py.) -/
namespace Go.Proofs.Ytkdnkjjnmadhgaa.Dev
open Go.RowKit Go.Maps Go.Lib


set_option maxHeartbeats 4000000 in
set_option maxRecDepth 100000 in
/-- No character will come. -/
theorem term_none (w : World) (B d : Nat) (m : TM) (p : PT) (q : Rq) (h : TRep B w d m p) (hq : q.do_ = 1) (hp : p.times = []) :
    Calls Try.prog 96 #[ptr d, .agg (encQ q).toArray] w fun e w' => One B w q (max q.at_ p.free) (-1) [] e w' ∧ TRep B w' d m { p with free := max q.at_ p.free } ∧ Touch w w' (· = d) := by
  obtain ⟨W, hW⟩ : ∃ W, W = w.alloc (.cells (encQ q).toArray 99) := ⟨_, rfl⟩
  have hbw : Below w.heap.size w W := by rw [hW]; exact (Below.refl _ _).alloc (Nat.le_refl _) _
  have gb : Box W w.heap.size q := by rw [hW]; exact alloc_new _ _
  have hr : TRep B W d m p := h.keep fun k hl _ => hbw.block k hl
  have hdl : d < w.heap.size := blt h.cells
  generalize hQ : (Value.agg (encQ q).toArray) = Q
  go_enter Try.func96, Try.ntmps96
  subst hQ
  go_upto_region 1 with (fail)
  rw [← hW]
  obtain ⟨z0, z1, z2, z3, z4, z5, z6⟩ := gb.all
  obtain ⟨c0, c1, c2, c3, f0, f1, f2, f3⟩ := hr.all
  rw [hq] at z1
  have hne : w.heap.size ≠ d := by omega
  have HR := Lib.hid hr
  have H := Lib.hid h
  have GB := Lib.hid gb
  have HB := Lib.hid hbw
  have HQ := Lib.hid hq
  have HDL := Lib.hid hdl
  have HNE := Lib.hid hne
  clear hW h hr gb hbw hq hdl hne
  go_quiet (fail)
  go_upto_region 3 with (fail)
  obtain ⟨F, hF⟩ : ∃ F, F = max q.at_ p.free := ⟨_, rfl⟩
  rw [← hF]
  obtain ⟨W1, hW1⟩ : ∃ W1, W1 = (W.drewN nq).setCell ⟨d, 3, none⟩ (.int .i64 F) := ⟨_, rfl⟩
  rw [← hW1]
  have hr1 : TRep B W1 d m { p with free := F } := by rw [hW1]; exact HR.out.put3 nq F
  have gb1 : Box W1 w.heap.size q := by rw [hW1]; exact GB.out.put HNE.out nq 3 _
  have ht1 : Touch W W1 (· = d) := by rw [hW1]; exact (Touch.drewN W nq _).trans (Touch.setCell _ _ _ (S := (· = d)) rfl)
  clear z0 z1 z2 z3 z4 z5 z6 c0 c1 c2 c3 f0 f1 f2 f3
  obtain ⟨z0, z1, z2, z3, z4, z5, z6⟩ := gb1.all
  obtain ⟨c0, c1, c2, c3, f0, f1, f2, f3⟩ := hr1.all
  rw [HQ.out] at z1
  have hbox : (encQ q).toArray = #[.int .i64 q.pk, .int .i64 1, .int .i64 q.a_, .int .i64 q.b_, .slice q.dv.1 q.dv.2.1 q.dv.2.2, .int .i64 q.at_, .int .i64 q.ord] := by
    unfold encQ
    rw [HQ.out]
  have HBOX := Lib.hid hbox
  have hB1 : B ≤ W1.heap.size := by
    have := hr1.low
    have := blt hr1.cells
    omega
  have HR1 := Lib.hid hr1
  have GB1 := Lib.hid gb1
  have HT1 := Lib.hid ht1
  have HFF := Lib.hid hF
  have HB1 := Lib.hid hB1
  clear hr1 gb1 ht1 hF hW1 hbox hB1
  have hv0 : m.vt.2.1 = 0 := by
    have := HR.out.ht.1
    rw [hp] at this
    exact this.symm
  rw [hv0] at c0
  have C91 := Lib.hid (answer_any W1 B q F (-1) (none, 0, 0) [] Held.nil_ HB1.out (by simp))
  rw [HBOX.out] at C91
  unfold encR at C91
  clear hp hv0
  go_upto_region 8 with (fail)
  go_wp2_with (go_at_call 91; (refine (C91.out).mono ?_); rintro e w5 ⟨dv, rfl, hb5, hd5⟩; have HB5 := Lib.hid (Below.mk (B := W1.heap.size) (w := W1) hb5.os hb5.tape hb5.output hb5.size hb5.block); have HD5 := Lib.hid hd5; clear hb5 hd5)
  go_ret
  have ht5 : Touch w w5 (· = d) := ((Touch.of_below HB.out).trans HT1.out).trans (Touch.of_below HB5.out)
  have ht6 := ht5.trans (Touch.alloc w5 (.cells #[.int .i64 q.pk, .int .i64 F, .int .i64 (-1), slv dv, .int .i64 0, .int .i64 q.ord] 95) (· = d))
  rw [← HFF.out]
  refine ⟨One.mk5 ht5.size HD5.out, HR1.out.keep fun k hl _ => ?_, ht6⟩
  rw [Below.heap_alloc _ _ _ (Nat.lt_of_lt_of_le hl HB5.out.size)]
  exact HB5.out.block k hl

set_option maxHeartbeats 4000000 in
set_option maxRecDepth 100000 in
/-- A write. -/
theorem term_write (w : World) (B d : Nat) (m : TM) (p : PT) (q : Rq) (h : TRep B w d m p) (hq : q.do_ = 2) (data : List Value) (hdat : Held B 5 w q.dv data) (hlen : q.dv.2.1 ≤ 1000000) (hsw : m.sw.length ≤ 100000) :
    Calls Try.prog 96 #[ptr d, .agg (encQ q).toArray] w fun e w' => One B w q (IntKind.i64.wrap (max q.at_ p.free + (q.dv.2.1 : Int))) (q.dv.2.1 : Int) [] e w' ∧ (∃ m', TRep B w' d m' { p with free := IntKind.i64.wrap (max q.at_ p.free + (q.dv.2.1 : Int)) } ∧ m'.sw.length = m.sw.length + 1 ∧ ∀ k, OwnT d m' k → OwnT d m k ∨ w.heap.size ≤ k) ∧ Touch w w' (OwnT d m) := by
  have HDAT := Lib.hid hdat
  have HLEN := Lib.hid hlen
  have HSW := Lib.hid hsw
  clear hdat hlen hsw
  obtain ⟨W, hW⟩ : ∃ W, W = w.alloc (.cells (encQ q).toArray 99) := ⟨_, rfl⟩
  have hbw : Below w.heap.size w W := by rw [hW]; exact (Below.refl _ _).alloc (Nat.le_refl _) _
  have gb : Box W w.heap.size q := by rw [hW]; exact alloc_new _ _
  have hr : TRep B W d m p := h.keep fun k hl _ => hbw.block k hl
  have hdl : d < w.heap.size := blt h.cells
  generalize hQ : (Value.agg (encQ q).toArray) = Q
  go_enter Try.func96, Try.ntmps96
  subst hQ
  go_upto_region 1 with (fail)
  rw [← hW]
  obtain ⟨z0, z1, z2, z3, z4, z5, z6⟩ := gb.all
  obtain ⟨c0, c1, c2, c3, f0, f1, f2, f3⟩ := hr.all
  rw [hq] at z1
  have hne : w.heap.size ≠ d := by omega
  have HR := Lib.hid hr
  have H := Lib.hid h
  have GB := Lib.hid gb
  have HB := Lib.hid hbw
  have HQ := Lib.hid hq
  have HDL := Lib.hid hdl
  have HNE := Lib.hid hne
  clear hW h hr gb hbw hq hdl hne
  go_quiet (fail)
  go_upto_region 3 with (fail)
  obtain ⟨F, hF⟩ : ∃ F, F = max q.at_ p.free := ⟨_, rfl⟩
  rw [← hF]
  obtain ⟨W1, hW1⟩ : ∃ W1, W1 = (W.drewN nq).setCell ⟨d, 3, none⟩ (.int .i64 F) := ⟨_, rfl⟩
  rw [← hW1]
  have hr1 : TRep B W1 d m { p with free := F } := by rw [hW1]; exact HR.out.put3 nq F
  have gb1 : Box W1 w.heap.size q := by rw [hW1]; exact GB.out.put HNE.out nq 3 _
  have ht1 : Touch W W1 (· = d) := by rw [hW1]; exact (Touch.drewN W nq _).trans (Touch.setCell _ _ _ (S := (· = d)) rfl)
  clear z0 z1 z2 z3 z4 z5 z6 c0 c1 c2 c3 f0 f1 f2 f3
  obtain ⟨z0, z1, z2, z3, z4, z5, z6⟩ := gb1.all
  obtain ⟨c0, c1, c2, c3, f0, f1, f2, f3⟩ := hr1.all
  rw [HQ.out] at z1
  have hbox : (encQ q).toArray = #[.int .i64 q.pk, .int .i64 2, .int .i64 q.a_, .int .i64 q.b_, .slice q.dv.1 q.dv.2.1 q.dv.2.2, .int .i64 q.at_, .int .i64 q.ord] := by
    unfold encQ
    rw [HQ.out]
  have HBOX := Lib.hid hbox
  have hB1 : B ≤ W1.heap.size := by
    have := hr1.low
    have := blt hr1.cells
    omega
  have HR1 := Lib.hid hr1
  have GB1 := Lib.hid gb1
  have HT1 := Lib.hid ht1
  have HFF := Lib.hid hF
  have HB1 := Lib.hid hB1
  clear hr1 gb1 ht1 hF hW1 hbox hB1
  obtain ⟨G, hG⟩ : ∃ G, G = IntKind.i64.wrap (F + (q.dv.2.1 : Int)) := ⟨_, rfl⟩
  have k4 : IntKind.i64.wrap (F + (q.dv.2.1 : Int)) = G := hG.symm
  have HG := Lib.hid hG
  clear hG
  go_upto_region 4 with (fail)
  obtain ⟨C, hCd⟩ : ∃ C : World → Prop, ∀ z, C z ↔ (z.cell? ⟨w.heap.size, 4, none⟩ = some (.slice q.dv.1 q.dv.2.1 q.dv.2.2) ∧ z.cell? ⟨d, 3, none⟩ = some (.int .i64 F)) := ⟨_, fun _ => Iff.rfl⟩
  have s0 := fun s : {z : World // C z} => ((hCd s.1).1 s.2).1
  have s1 := fun s : {z : World // C z} => ((hCd s.1).1 s.2).2
  have hC0 := (hCd W1.drew).2 ⟨z4, c3⟩
  haveI : Nonempty {z : World // C z} := ⟨⟨W1.drew, hC0⟩⟩
  refine Mix.wp_region_mix C [11] (by kernel_rfl) (by kernel_rfl) hC0 ?_
  have HCD := Lib.hid hCd
  clear hCd hC0
  repeat (refine Mix.mix_still rfl (fun K hK => ?_); go_simp; refine hK _ ?_; clear hK K)
  refine Mix.mix_eff rfl ?_
  go_wp2
  refine Mix.mix_nil ?_
  clear s0 s1 HCD
  go_upto_region 5 with (fail)
  obtain ⟨W3, hW3⟩ : ∃ W3, W3 = (W1.setCell ⟨d, 3, none⟩ (.int .i64 G)).drew := ⟨_, rfl⟩
  rw [← hW3]
  have hr3 : TRep B W3 d m { p with free := G } := by
    rw [hW3]
    have h1 := HR1.out.put3 0 G
    rw [World.drewN_zero] at h1
    exact h1.keep fun _ _ _ => rfl
  have gb3 : Box W3 w.heap.size q := by rw [hW3]; exact (Below.heap_setCell W1 _ _ _ HNE.out).trans GB1.out
  have ht3 : Touch w W3 (· = d) := by rw [hW3]; exact (((Touch.of_below HB.out).trans HT1.out).trans (Touch.setCell _ _ _ (S := (· = d)) rfl)).trans (Touch.drew _ _)
  have hd3 : Held B 5 W3 q.dv data := HDAT.out.keep fun k hk ho => ht3.block k hk fun e => by
    subst e
    rcases ho with ho | ⟨cur, ho⟩
    · have := HR.out.low; omega
    · rw [H.out.cells] at ho
      simp at ho
  clear z0 z1 z2 z3 z4 z5 z6 c0 c1 c2 c3 f0 f1 f2 f3 k4
  obtain ⟨z0, z1, z2, z3, z4, z5, z6⟩ := gb3.all
  obtain ⟨c0, c1, c2, c3, f0, f1, f2, f3⟩ := hr3.all
  rw [HQ.out] at z1
  have C47 := Lib.hid (clone_bytes W3.drew W3.heap.size q.dv.1 q.dv.2.1 q.dv.2.2 data hd3.reads (Nat.le_refl _) hd3.2.1 HLEN.out)
  have HR3 := Lib.hid hr3
  have GB3 := Lib.hid gb3
  have HT3 := Lib.hid ht3
  have HD3 := Lib.hid hd3
  clear hr3 gb3 ht3 hd3 hW3
  obtain ⟨C, hCd⟩ : ∃ C : World → Prop, ∀ z, C z ↔ (z.cell? ⟨d, 2, none⟩ = some (.slice m.vw.1 m.vw.2.1 m.vw.2.2) ∧ z.cell? ⟨d, 3, none⟩ = some (.int .i64 G) ∧ z.cell? ⟨w.heap.size, 4, none⟩ = some (.slice q.dv.1 q.dv.2.1 q.dv.2.2)) := ⟨_, fun _ => Iff.rfl⟩
  have s0 := fun s : {z : World // C z} => ((hCd s.1).1 s.2).1
  have s1 := fun s : {z : World // C z} => ((hCd s.1).1 s.2).2.1
  have s2 := fun s : {z : World // C z} => ((hCd s.1).1 s.2).2.2
  have hC0 := (hCd W3.drew).2 ⟨c2, c3, z4⟩
  haveI : Nonempty {z : World // C z} := ⟨⟨W3.drew, hC0⟩⟩
  refine Mix.wp_region_mix C [12, 14, 15, 18] (by kernel_rfl) (by kernel_rfl) hC0 ?_
  have HCD := Lib.hid hCd
  clear hCd hC0 z0 z1 z2 z3 z5 z6 c0 c1 f0 f1 f2 f3
  repeat (refine Mix.mix_still rfl (fun K hK => ?_); go_simp; refine hK _ ?_; clear hK K)
  refine Mix.mix_eff rfl ?_
  go_wp2_with (go_at_call 47; (refine (C47.out).mono ?_); rintro e w5 ⟨v5, rfl, hb5, ho5⟩; (obtain ⟨nv, rfl, hnn, hnh⟩ := Held.of_own (B := B) ho5 HD3.out.2.1); have HB5 := Lib.hid (Below.mk (B := W3.heap.size) (w := W3) hb5.os hb5.tape hb5.output hb5.size hb5.block); clear hb5 ho5 hnh hnn)
  have hk5 : ∀ {a : Addr} {v : Value}, W3.cell? a = some v → w5.cell? a = some v := fun h => (HB5.out.cell (lt_of_cell h)).trans h
  refine ⟨(HCD.out _).2 ⟨hk5 c2, hk5 c3, hk5 z4⟩, ?_⟩
  have hr5 : TRep B w5 d m { p with free := G } := HR3.out.keep fun k hl _ => HB5.out.block k hl
  have gb5 : Box w5 w.heap.size q := (HB5.out.block _ (blt GB3.out)).trans GB3.out
  have x2 := hk5 c2
  have x3 := hk5 c3
  have x4 := hk5 z4
  have HR5 := Lib.hid hr5
  have GB5 := Lib.hid gb5
  clear hk5 hr5 gb5 c2 c3 z4
  repeat (refine Mix.mix_still rfl (fun K hK => ?_); go_simp; refine hK _ ?_; clear hK K)
  refine Mix.mix_eff rfl ?_
  refine wpList_buildG _ rfl (.tmp 47) 104 116 rfl #[.int .i64 G, .int .i64 0, .slice nv.1 nv.2.1 nv.2.2] rfl (buildG116 _ _ _ _) ?_
  obtain ⟨W7, hW7⟩ : ∃ W7, W7 = w5.alloc (.cells #[.int .i64 G, .int .i64 0, .slice nv.1 nv.2.1 nv.2.2] 116) := ⟨_, rfl⟩
  have hn7 : W7.heap[w5.heap.size]? = some (.cells #[.int .i64 G, .int .i64 0, .slice nv.1 nv.2.1 nv.2.2] 116 (0, 0)) := by rw [hW7]; exact alloc_new w5 _
  have hb7 : Below w5.heap.size w5 W7 := by rw [hW7]; exact (Below.refl w5.heap.size w5).alloc (Nat.le_refl _) _
  have hk7 : ∀ {a : Addr} {v : Value}, w5.cell? a = some v → W7.cell? a = some v := fun hx => (hb7.cell (lt_of_cell hx)).trans hx
  rw [← hW7]
  refine wpList_nil ⟨rfl, .inr ((HCD.out W7).2 ⟨hk7 x2, hk7 x3, hk7 x4⟩), ?_⟩
  refine Mix.mix_eff rfl ?_
  obtain ⟨i0, hi, hz0, hz1, hz2⟩ := info_parts infoG116
  have hw7 : W7.ownsRow B 116 3 (slv m.vw) m.sw.length (m.sw.flatMap encW) := own_keep HR5.out.rw fun k _ hl => hb7.block k hl
  have hlo : B ≤ W7.heap.size := by
    have := HR5.out.low
    have := blt HR5.out.cells
    have := hb7.size
    omega
  have hswl := HSW.out
  refine wpList_append_any _ rfl _ _ 104 rfl B 116 i0 (.agg #[.int .i64 0, .int .i64 0, .slice none 0 0]) 3 40 Try.underlying104 hi hz0 hz1 hz2 rfl (by decide) (slv m.vw) m.sw.length _ rfl hw7 W7.heap.size (some ⟨w5.heap.size, 0, none⟩) 1 1 (encW (G, 0, nv)) rfl ?rd ?one (by unfold maxLen; omega) (by omega) hlo ?_
  case rd => exact ⟨rfl, fun _ => ⟨_, rfl, blt hn7, fun i u hu => by rw [Addr.add_lit, Nat.zero_add, cell_of hn7]; simpa [encW] using hu⟩⟩
  case one =>
    intro u hu
    simp [encW] at hu
    rcases hu with rfl | rfl | rfl <;> rfl
  intro v' w8 hrow8 hgrow8 hloc8
  obtain ⟨A8, c8, rfl⟩ := own_form hrow8
  have hk8 : ∀ k, k < w5.heap.size → (slv m.vw).ownBlock ≠ some k → w8.heap[k]? = w5.heap[k]? := fun k hk hne => (hgrow8.block k (Nat.lt_of_lt_of_le hk hb7.size) (fun e => hne e.symm)).trans (hb7.block k hk)
  have hc8 : ∀ {k : Nat} {cu : Array Value} {ty : TypeId}, w5.heap[k]? = some (.cells cu ty (0, 0)) → ty ≠ 116 → w8.heap[k]? = some (.cells cu ty (0, 0)) := fun hc hty => (hk8 _ (blt hc) (own_ty HR5.out.rw hc hty)).trans hc
  have hd8 := hc8 HR5.out.cells (by decide)
  have q2 : w8.cell? ⟨d, 2, none⟩ = some (.slice m.vw.1 m.vw.2.1 m.vw.2.2) := (cell_of hd8 2).trans rfl
  have qf : w8.frozen? ⟨d, 2, none⟩ = false := free_of hd8 2
  have hcell8 : ∀ {k j : Nat} {v : Value} {cu : Array Value} {ty : TypeId}, w5.heap[k]? = some (.cells cu ty (0, 0)) → ty ≠ 116 → w5.cell? ⟨k, j, none⟩ = some v → w8.cell? ⟨k, j, none⟩ = some v := fun {k j v cu ty} hc hty hv => by
    rw [cell_of (hc8 hc hty)]
    rw [cell_of hc] at hv
    exact hv
  refine wpList_nil ⟨rfl, .inr ((HCD.out _).2 ⟨q2, hcell8 HR5.out.cells (by decide) x3, hcell8 GB5.out (by decide) x4⟩), ?_⟩
  have HROW8 := Lib.hid hrow8
  have HK8 := Lib.hid hk8
  have HGR8 := Lib.hid hgrow8
  have HLOC8 := Lib.hid hloc8
  have HB7 := Lib.hid hb7
  have GB8 : RowKit.Hid (Box w8 w.heap.size q) := Lib.hid (hc8 GB5.out (by decide))
  clear hrow8 hgrow8 hloc8 hk8 hc8 hd8 hcell8 hw7 hn7 hb7 hk7 hW7 hlo hswl hi hz0 hz1 hz2 x2 x3 x4
  repeat (refine Mix.mix_still rfl (fun K hK => ?_); go_simp; refine hK _ ?_; clear hK K)
  refine Mix.mix_eff rfl ?_
  go_wp2_with fail
  refine Mix.mix_nil ?_
  go_upto_region 6 with (fail)
  obtain ⟨W9, hW9⟩ : ∃ W9, W9 = w8.setCell ⟨d, 2, none⟩ (.slice A8 (m.sw.length + 1) c8) := ⟨_, rfl⟩
  rw [← hW9]
  have hr9 := HR5.out.addw (v' := (A8, m.sw.length + 1, c8)) (x := (G, 0, nv)) HROW8.out HK8.out
  rw [show slv (A8, m.sw.length + 1, c8) = .slice A8 (m.sw.length + 1) c8 from rfl, ← hW9] at hr9
  have gb9 : Box W9 w.heap.size q := by rw [hW9]; exact (Below.heap_setCell w8 _ _ _ HNE.out).trans GB8.out
  have ht9 : Touch w W9 (OwnT d m) := by
    rw [hW9]
    refine Touch.trans ?_ (Touch.setCell _ _ _ (S := OwnT d m) (.inl rfl))
    refine Touch.andThen (Touch.andThen (Touch.andThen (HT3.out.mono fun k _ e => .inl e) (Touch.of_below HB5.out (S := fun _ => False)) fun _ _ e => e.elim) (Touch.of_below HB7.out (S := fun _ => False)) fun _ _ e => e.elim) (Touch.grown HGR8.out) fun k _ e => .inr e.symm
  have hB9 : B ≤ W9.heap.size := by
    have := hr9.low
    have := blt hr9.cells
    omega
  have hsz9 : w.heap.size ≤ W7.heap.size := Nat.le_trans (Nat.le_trans HT3.out.size HB5.out.size) HB7.out.size
  obtain ⟨z0, z1, z2, z3, z4, z5, z6⟩ := gb9.all
  obtain ⟨c0, c1, c2, c3, f0, f1, f2, f3⟩ := hr9.all
  rw [HQ.out] at z1
  have C91 := Lib.hid (answer_any W9.drew B q G (q.dv.2.1 : Int) (none, 0, 0) [] Held.nil_ hB9 (by simp))
  rw [HBOX.out] at C91
  unfold encR at C91
  have HR9 := Lib.hid hr9
  have HT9 := Lib.hid ht9
  have HS9 := Lib.hid hsz9
  clear hr9 gb9 ht9 hW9 hB9 q2 qf hsz9
  obtain ⟨C, hCd⟩ : ∃ C : World → Prop, ∀ z, C z ↔ (z.cell? ⟨w.heap.size, 0, none⟩ = some (.int .i64 q.pk) ∧ z.cell? ⟨w.heap.size, 1, none⟩ = some (.int .i64 2) ∧ z.cell? ⟨w.heap.size, 2, none⟩ = some (.int .i64 q.a_) ∧ z.cell? ⟨w.heap.size, 3, none⟩ = some (.int .i64 q.b_) ∧ z.cell? ⟨w.heap.size, 4, none⟩ = some (.slice q.dv.1 q.dv.2.1 q.dv.2.2) ∧ z.cell? ⟨w.heap.size, 5, none⟩ = some (.int .i64 q.at_) ∧ z.cell? ⟨w.heap.size, 6, none⟩ = some (.int .i64 q.ord) ∧ z.cell? ⟨d, 3, none⟩ = some (.int .i64 G)) := ⟨_, fun _ => Iff.rfl⟩
  have s0 := fun s : {z : World // C z} => ((hCd s.1).1 s.2).1
  have s1 := fun s : {z : World // C z} => ((hCd s.1).1 s.2).2.1
  have s2 := fun s : {z : World // C z} => ((hCd s.1).1 s.2).2.2.1
  have s3 := fun s : {z : World // C z} => ((hCd s.1).1 s.2).2.2.2.1
  have s4 := fun s : {z : World // C z} => ((hCd s.1).1 s.2).2.2.2.2.1
  have s5 := fun s : {z : World // C z} => ((hCd s.1).1 s.2).2.2.2.2.2.1
  have s6 := fun s : {z : World // C z} => ((hCd s.1).1 s.2).2.2.2.2.2.2.1
  have s7 := fun s : {z : World // C z} => ((hCd s.1).1 s.2).2.2.2.2.2.2.2
  have hC0 := (hCd W9.drew).2 ⟨z0, z1, z2, z3, z4, z5, z6, c3⟩
  haveI : Nonempty {z : World // C z} := ⟨⟨W9.drew, hC0⟩⟩
  refine Mix.wp_region_mix C [9, 10] (by kernel_rfl) (by kernel_rfl) hC0 ?_
  have HCD := Lib.hid hCd
  have HC0 := Lib.hid hC0
  clear hCd hC0 z0 z1 z2 z3 z4 z5 z6 c0 c1 c2 c3 f0 f1 f2 f3
  repeat (refine Mix.mix_still rfl (fun K hK => ?_); go_simp; refine hK _ ?_; clear hK K)
  refine Mix.mix_eff rfl ?_
  go_wp2_with (go_at_call 91; (refine (C91.out).mono ?_); rintro e w10 ⟨dv, rfl, hb5, hd5⟩; have HB10 := Lib.hid (Below.mk (B := W9.heap.size) (w := W9) hb5.os hb5.tape hb5.output hb5.size hb5.block); have HD10 := Lib.hid hd5; clear hb5 hd5)
  have hk5 : ∀ {a : Addr} {v : Value}, W9.drew.cell? a = some v → w10.cell? a = some v := fun h => (HB10.out.cell (lt_of_cell h)).trans h
  obtain ⟨y0, y1, y2, y3, y4, y5, y6, y7⟩ := (HCD.out _).1 HC0.out
  refine ⟨(HCD.out _).2 ⟨hk5 y0, hk5 y1, hk5 y2, hk5 y3, hk5 y4, hk5 y5, hk5 y6, hk5 y7⟩, ?_⟩
  refine Mix.mix_eff rfl ?_
  go_wp2
  refine ⟨(HCD.out _).2 ⟨Lib.cell?_alloc_some _ (hk5 y0), Lib.cell?_alloc_some _ (hk5 y1), Lib.cell?_alloc_some _ (hk5 y2), Lib.cell?_alloc_some _ (hk5 y3), Lib.cell?_alloc_some _ (hk5 y4), Lib.cell?_alloc_some _ (hk5 y5), Lib.cell?_alloc_some _ (hk5 y6), Lib.cell?_alloc_some _ (hk5 y7)⟩, ?_⟩
  clear hk5 y0 y1 y2 y3 y4 y5 y6 y7
  repeat (refine Mix.mix_still rfl (fun K hK => ?_); go_simp; refine hK _ ?_; clear hK K)
  refine Mix.mix_nil ?_
  go_wp2
  go_ret
  have ht5 : Touch w w10 (OwnT d m) := HT9.out.trans (Touch.of_below HB10.out)
  have ht6 := ht5.trans (Touch.alloc w10 (.cells #[.int .i64 q.pk, .int .i64 G, .int .i64 (q.dv.2.1 : Int), slv dv, .int .i64 0, .int .i64 q.ord] 95) (OwnT d m))
  rw [← HFF.out, ← HG.out]
  refine ⟨One.mk5 ht5.size HD10.out, ⟨_, HR9.out.keep fun k hl _ => ?_, by simp, fun k hk => ?_⟩, ht6⟩
  · rw [Below.heap_alloc _ _ _ (Nat.lt_of_lt_of_le hl HB10.out.size)]
    exact HB10.out.block k hl
  · rcases hk with hk | hk
    · exact .inl (.inl hk)
    · rcases HLOC8.out with e | e
      · exact .inl (.inr (e.symm.trans hk))
      · right
        have : some W7.heap.size = some k := e.symm.trans hk
        injection this with this
        rw [← this]
        exact HS9.out

set_option maxHeartbeats 4000000 in
set_option maxRecDepth 100000 in
/-- A character comes. -/
theorem term_read (w : World) (B d : Nat) (m : TM) (p : PT) (q : Rq) (h : TRep B w d m p) (hq : q.do_ = 1) (t0 : Int) (ts : List Int) (k0 : Int) (ks : List Int) (hp : p.times = t0 :: ts) (hk : p.chars = k0 :: ks) (hk0 : 0 ≤ k0 ∧ k0 < 256) (hn : ts.length ≤ 100000) (hn2 : ks.length ≤ 100000) :
    Calls Try.prog 96 #[ptr d, .agg (encQ q).toArray] w fun e w' => One B w q (max (max q.at_ p.free) t0) k0 [] e w' ∧ (∃ m', TRep B w' d m' ⟨ts, ks, max (max q.at_ p.free) t0⟩ ∧ m'.sw = m.sw ∧ ∀ k, OwnT d m' k → OwnT d m k) ∧ Touch w w' (· = d) := by
  obtain ⟨W, hW⟩ : ∃ W, W = w.alloc (.cells (encQ q).toArray 99) := ⟨_, rfl⟩
  have hbw : Below w.heap.size w W := by rw [hW]; exact (Below.refl _ _).alloc (Nat.le_refl _) _
  have gb : Box W w.heap.size q := by rw [hW]; exact alloc_new _ _
  have hr : TRep B W d m p := h.keep fun k hl _ => hbw.block k hl
  have hdl : d < w.heap.size := blt h.cells
  generalize hQ : (Value.agg (encQ q).toArray) = Q
  go_enter Try.func96, Try.ntmps96
  subst hQ
  go_upto_region 1 with (fail)
  rw [← hW]
  obtain ⟨z0, z1, z2, z3, z4, z5, z6⟩ := gb.all
  obtain ⟨c0, c1, c2, c3, f0, f1, f2, f3⟩ := hr.all
  rw [hq] at z1
  have hne : w.heap.size ≠ d := by omega
  have HR := Lib.hid hr
  have H := Lib.hid h
  have GB := Lib.hid gb
  have HB := Lib.hid hbw
  have HQ := Lib.hid hq
  have HDL := Lib.hid hdl
  have HNE := Lib.hid hne
  clear hW h hr gb hbw hq hdl hne
  go_quiet (fail)
  go_upto_region 3 with (fail)
  obtain ⟨F, hF⟩ : ∃ F, F = max q.at_ p.free := ⟨_, rfl⟩
  rw [← hF]
  obtain ⟨W1, hW1⟩ : ∃ W1, W1 = (W.drewN nq).setCell ⟨d, 3, none⟩ (.int .i64 F) := ⟨_, rfl⟩
  rw [← hW1]
  have hr1 : TRep B W1 d m { p with free := F } := by rw [hW1]; exact HR.out.put3 nq F
  have gb1 : Box W1 w.heap.size q := by rw [hW1]; exact GB.out.put HNE.out nq 3 _
  have ht1 : Touch W W1 (· = d) := by rw [hW1]; exact (Touch.drewN W nq _).trans (Touch.setCell _ _ _ (S := (· = d)) rfl)
  clear z0 z1 z2 z3 z4 z5 z6 c0 c1 c2 c3 f0 f1 f2 f3
  obtain ⟨z0, z1, z2, z3, z4, z5, z6⟩ := gb1.all
  obtain ⟨c0, c1, c2, c3, f0, f1, f2, f3⟩ := hr1.all
  rw [HQ.out] at z1
  have hbox : (encQ q).toArray = #[.int .i64 q.pk, .int .i64 1, .int .i64 q.a_, .int .i64 q.b_, .slice q.dv.1 q.dv.2.1 q.dv.2.2, .int .i64 q.at_, .int .i64 q.ord] := by
    unfold encQ
    rw [HQ.out]
  have HBOX := Lib.hid hbox
  have hB1 : B ≤ W1.heap.size := by
    have := hr1.low
    have := blt hr1.cells
    omega
  have HR1 := Lib.hid hr1
  have GB1 := Lib.hid gb1
  have HT1 := Lib.hid ht1
  have HFF := Lib.hid hF
  have HB1 := Lib.hid hB1
  clear hr1 gb1 ht1 hF hW1 hbox hB1
  obtain ⟨G, hG⟩ : ∃ G, G = max F t0 := ⟨_, rfl⟩
  obtain ⟨⟨ta, tn, tc⟩, ⟨ya, yn, yc⟩, vw, sw⟩ := m
  have hht := HR1.out.ht
  have hhy := HR1.out.hy
  have hct := HR1.out.capt
  have hcy := HR1.out.capy
  simp only [hp, hk] at hht hhy
  obtain rfl : tn = ts.length + 1 := by have := hht.1; simp [ints] at this; omega
  obtain rfl : yn = ks.length + 1 := by have := hhy.1; simp [bytes] at this; omega
  obtain ⟨gt, ot, rfl, hbt, hct0⟩ : ∃ gt ot, ta = some ⟨gt, ot, none⟩ ∧ gt ≠ d ∧ W1.cell? ⟨gt, ot, none⟩ = some (.int .i64 t0) := by
    obtain ⟨gt, ot, e, hb, hc⟩ := hht.2.2 (by show 0 < ts.length + 1; omega)
    refine ⟨gt, ot, e, fun e' => ?_, hc 0 _ rfl⟩
    subst e'
    rcases hb with hb | ⟨cur, hb⟩
    · have := HR1.out.low; omega
    · rw [HR1.out.cells] at hb
      simp at hb
  obtain ⟨gy, oy, rfl, hby, hcy0⟩ : ∃ gy oy, ya = some ⟨gy, oy, none⟩ ∧ gy ≠ d ∧ W1.cell? ⟨gy, oy, none⟩ = some (.int .u8 k0) := by
    obtain ⟨gy, oy, e, hb, hc⟩ := hhy.2.2 (by show 0 < ks.length + 1; omega)
    refine ⟨gy, oy, e, fun e' => ?_, hc 0 _ rfl⟩
    subst e'
    rcases hb with hb | ⟨cur, hb⟩
    · have := HR1.out.low; omega
    · rw [HR1.out.cells] at hb
      simp at hb
  have hl1 : ¬ ((ts.length : Int) + 1) < 1 := by omega
  have hl2 : ¬ ((ks.length : Int) + 1) < 1 := by omega
  have kk : IntKind.i64.wrap k0 = k0 := by rw [IntKind.wrap_i64]; omega
  have HHT := Lib.hid hht
  have HHY := Lib.hid hhy
  have HCT := Lib.hid hct
  have HCY := Lib.hid hcy
  have HP := Lib.hid hp
  have HK := Lib.hid hk
  clear hht hhy hct hcy hp hk hk0
  go_upto_region 10 with (fail)
  rw [← hG]
  obtain ⟨W2, hW2⟩ : ∃ W2, W2 = W1.setCell ⟨d, 3, none⟩ (.int .i64 G) := ⟨_, rfl⟩
  rw [← hW2]
  have hr2 : TRep B W2 d ⟨(some ⟨gt, ot, none⟩, ts.length + 1, tc), (some ⟨gy, oy, none⟩, ks.length + 1, yc), vw, sw⟩ { p with free := G } := by
    rw [hW2]
    have := HR1.out.put3 0 G
    rwa [World.drewN_zero] at this
  have gb2 : Box W2 w.heap.size q := by rw [hW2]; exact (Below.heap_setCell W1 _ _ _ HNE.out).trans GB1.out
  have ht2 : Touch w W2 (· = d) := by rw [hW2]; exact ((Touch.of_below HB.out).trans HT1.out).trans (Touch.setCell _ _ _ (S := (· = d)) rfl)
  have y0 : W2.cell? ⟨gy, oy, none⟩ = some (.int .u8 k0) := by rw [hW2]; exact (World.cell?_setCell_other _ _ _ _ (by simp [hby])).trans hcy0
  clear z0 z1 z2 z3 z4 z5 z6 c0 c1 c2 c3 f0 f1 f2 f3 hct0 hcy0
  obtain ⟨c0, c1, c2, c3, f0, f1, f2, f3⟩ := hr2.all
  have HR2 := Lib.hid hr2
  have GB2 := Lib.hid gb2
  have HT2 := Lib.hid ht2
  have HGE := Lib.hid hG
  have HW2E := Lib.hid hW2
  clear hr2 gb2 ht2 hW2 hG
  go_upto_region 11 with (fail)
  obtain ⟨C, hCd⟩ : ∃ C : World → Prop, ∀ z, C z ↔ (z.cell? ⟨d, 1, none⟩ = some (.slice (some ⟨gy, oy, none⟩) (ks.length + 1) yc)) := ⟨_, fun _ => Iff.rfl⟩
  have s0' := fun s : {z : World // C z} => (hCd s.1).1 s.2
  have hC0 := (hCd W2.drew).2 c1
  haveI : Nonempty {z : World // C z} := ⟨⟨W2.drew, hC0⟩⟩
  refine Mix.wp_region_mix C [5, 14, 17] (by kernel_rfl) (by kernel_rfl) hC0 ?_
  have HCD := Lib.hid hCd
  have HC0 := Lib.hid hC0
  clear hCd hC0
  repeat (refine Mix.mix_still rfl (fun K hK => ?_); go_simp; refine hK _ ?_; clear hK K)
  refine Mix.mix_eff rfl ?_
  go_wp2_with fail
  refine ⟨HC0.out, ?_⟩
  repeat (refine Mix.mix_still rfl (fun K hK => ?_); go_simp; refine hK _ ?_; clear hK K)
  obtain ⟨at_, hat⟩ : ∃ at_, at_ = (if tc = 1 then some (⟨gt, ot, none⟩ : Addr) else some ⟨gt, ot + 1, none⟩) := ⟨_, rfl⟩
  obtain ⟨ay, hay⟩ : ∃ ay, ay = (if yc = 1 then some (⟨gy, oy, none⟩ : Addr) else some ⟨gy, oy + 1, none⟩) := ⟨_, rfl⟩
  rw [← hat, ← hay]
  have HAT := Lib.hid hat
  have HAY := Lib.hid hay
  clear hat hay
  refine Mix.mix_eff rfl ?_
  go_wp2_with fail
  refine ⟨(HCD.out _).2 ((World.cell?_setCell_other _ _ _ _ (by simp)).trans c1), ?_⟩
  repeat (refine Mix.mix_still rfl (fun K hK => ?_); go_simp; refine hK _ ?_; clear hK K)
  refine Mix.mix_eff rfl ?_
  go_wp2_with fail
  refine Mix.mix_nil ?_
  go_upto_region 12 with (fail)
  obtain ⟨W3, hW3⟩ : ∃ W3, W3 = ((W2.setCell ⟨d, 0, none⟩ (.slice at_ ts.length (tc - 1))).setCell ⟨d, 1, none⟩ (.slice ay ks.length (yc - 1))).drew := ⟨_, rfl⟩
  rw [← hW3]
  have hk3 : ∀ k, k ≠ d → W3.heap[k]? = W2.heap[k]? := fun k hk => by rw [hW3]; exact (Below.heap_setCell _ _ _ _ hk).trans (Below.heap_setCell W2 _ _ _ hk)
  have hd3 : W3.heap[d]? = some (.cells #[.slice at_ ts.length (tc - 1), .slice ay ks.length (yc - 1), slv vw, .int .i64 G] 124 (0, 0)) := by
    rw [hW3]
    have h1 := set_same (set_same HR2.out.cells 0 (.slice at_ ts.length (tc - 1))) 1 (.slice ay ks.length (yc - 1))
    refine Eq.trans (show _ = ((W2.setCell ⟨d, 0, none⟩ (.slice at_ ts.length (tc - 1))).setCell ⟨d, 1, none⟩ (.slice ay ks.length (yc - 1))).heap[d]? from rfl) ?_
    rw [h1]
    simp
  have hh1 : Held B 3 W2 (at_, ts.length, tc - 1) (ints ts) := by
    have := (HHT.out.keep (w' := W2) fun k hk ho => by
      rw [HW2E.out]
      refine Below.heap_setCell W1 _ _ _ fun e => ?_
      have e : k = d := e
      subst e
      rcases ho with ho | ⟨cur, ho⟩
      · have := HR1.out.low; omega
      · rw [HR1.out.cells] at ho
        simp at ho).cut1 HCT.out
    rw [← HAT.out] at this
    exact this
  have hh2 : Held B 5 W2 (ay, ks.length, yc - 1) (bytes ks) := by
    have := (HHY.out.keep (w' := W2) fun k hk ho => by
      rw [HW2E.out]
      refine Below.heap_setCell W1 _ _ _ fun e => ?_
      have e : k = d := e
      subst e
      rcases ho with ho | ⟨cur, ho⟩
      · have := HR1.out.low; omega
      · rw [HR1.out.cells] at ho
        simp at ho).cut1 HCY.out
    rw [← HAY.out] at this
    exact this
  have hr3 := HR2.out.set (w' := W3) (at_, ts.length, tc - 1) (ay, ks.length, yc - 1) ts ks G hd3 (fun k _ hkd _ => hk3 k hkd) hh1 hh2 (by have := HCT.out; simp only at this ⊢; omega) (by have := HCY.out; simp only at this ⊢; omega)
  have gb3 : Box W3 w.heap.size q := (hk3 _ HNE.out).trans GB2.out
  have ht3 : Touch w W3 (· = d) := by
    rw [hW3]
    exact ((HT2.out.trans (Touch.setCell _ _ _ (S := (· = d)) rfl)).trans (Touch.setCell _ _ _ (S := (· = d)) rfl)).trans (Touch.drew _ _)
  have hB3 : B ≤ W3.heap.size := by
    have := hr3.low
    have := blt hr3.cells
    omega
  clear c0 c1 c2 c3 f0 f1 f2 f3 y0 s0'
  obtain ⟨z0, z1, z2, z3, z4, z5, z6⟩ := gb3.all
  obtain ⟨c0, c1, c2, c3, f0, f1, f2, f3⟩ := hr3.all
  rw [HQ.out] at z1
  have C91 := Lib.hid (answer_any W3.drew B q G k0 (none, 0, 0) [] Held.nil_ hB3 (by simp))
  rw [HBOX.out] at C91
  unfold encR at C91
  have HR3 := Lib.hid hr3
  have HT3 := Lib.hid ht3
  clear hr3 gb3 ht3 hB3 hh1 hh2 hd3 hk3 hW3 HCD HC0
  obtain ⟨C, hCd⟩ : ∃ C : World → Prop, ∀ z, C z ↔ (z.cell? ⟨w.heap.size, 0, none⟩ = some (.int .i64 q.pk) ∧ z.cell? ⟨w.heap.size, 1, none⟩ = some (.int .i64 1) ∧ z.cell? ⟨w.heap.size, 2, none⟩ = some (.int .i64 q.a_) ∧ z.cell? ⟨w.heap.size, 3, none⟩ = some (.int .i64 q.b_) ∧ z.cell? ⟨w.heap.size, 4, none⟩ = some (.slice q.dv.1 q.dv.2.1 q.dv.2.2) ∧ z.cell? ⟨w.heap.size, 5, none⟩ = some (.int .i64 q.at_) ∧ z.cell? ⟨w.heap.size, 6, none⟩ = some (.int .i64 q.ord) ∧ z.cell? ⟨d, 3, none⟩ = some (.int .i64 G)) := ⟨_, fun _ => Iff.rfl⟩
  have s0 := fun s : {z : World // C z} => ((hCd s.1).1 s.2).1
  have s1 := fun s : {z : World // C z} => ((hCd s.1).1 s.2).2.1
  have s2 := fun s : {z : World // C z} => ((hCd s.1).1 s.2).2.2.1
  have s3 := fun s : {z : World // C z} => ((hCd s.1).1 s.2).2.2.2.1
  have s4 := fun s : {z : World // C z} => ((hCd s.1).1 s.2).2.2.2.2.1
  have s5 := fun s : {z : World // C z} => ((hCd s.1).1 s.2).2.2.2.2.2.1
  have s6 := fun s : {z : World // C z} => ((hCd s.1).1 s.2).2.2.2.2.2.2.1
  have s7 := fun s : {z : World // C z} => ((hCd s.1).1 s.2).2.2.2.2.2.2.2
  have hC0 := (hCd W3.drew).2 ⟨z0, z1, z2, z3, z4, z5, z6, c3⟩
  haveI : Nonempty {z : World // C z} := ⟨⟨W3.drew, hC0⟩⟩
  refine Mix.wp_region_mix C [6, 7] (by kernel_rfl) (by kernel_rfl) hC0 ?_
  have HCD := Lib.hid hCd
  have HC0 := Lib.hid hC0
  clear hCd hC0 z0 z1 z2 z3 z4 z5 z6 c0 c1 c2 c3 f0 f1 f2 f3
  repeat (refine Mix.mix_still rfl (fun K hK => ?_); go_simp; refine hK _ ?_; clear hK K)
  refine Mix.mix_eff rfl ?_
  go_wp2_with (go_at_call 91; (refine (C91.out).mono ?_); rintro e w5 ⟨dv, rfl, hb5, hd5⟩; have HB5 := Lib.hid (Below.mk (B := W3.heap.size) (w := W3) hb5.os hb5.tape hb5.output hb5.size hb5.block); have HD5 := Lib.hid hd5; clear hb5 hd5)
  have hk5 : ∀ {a : Addr} {v : Value}, W3.drew.cell? a = some v → w5.cell? a = some v := fun h => (HB5.out.cell (lt_of_cell h)).trans h
  obtain ⟨y0, y1, y2, y3, y4, y5, y6, y7⟩ := (HCD.out _).1 HC0.out
  refine ⟨(HCD.out _).2 ⟨hk5 y0, hk5 y1, hk5 y2, hk5 y3, hk5 y4, hk5 y5, hk5 y6, hk5 y7⟩, ?_⟩
  refine Mix.mix_eff rfl ?_
  go_wp2
  refine ⟨(HCD.out _).2 ⟨Lib.cell?_alloc_some _ (hk5 y0), Lib.cell?_alloc_some _ (hk5 y1), Lib.cell?_alloc_some _ (hk5 y2), Lib.cell?_alloc_some _ (hk5 y3), Lib.cell?_alloc_some _ (hk5 y4), Lib.cell?_alloc_some _ (hk5 y5), Lib.cell?_alloc_some _ (hk5 y6), Lib.cell?_alloc_some _ (hk5 y7)⟩, ?_⟩
  clear hk5 y0 y1 y2 y3 y4 y5 y6 y7
  repeat (refine Mix.mix_still rfl (fun K hK => ?_); go_simp; refine hK _ ?_; clear hK K)
  refine Mix.mix_nil ?_
  go_wp2
  go_ret
  have ht5 : Touch w w5 (· = d) := HT3.out.trans (Touch.of_below HB5.out)
  have ht6 := ht5.trans (Touch.alloc w5 (.cells #[.int .i64 q.pk, .int .i64 G, .int .i64 k0, slv dv, .int .i64 0, .int .i64 q.ord] 95) (· = d))
  have e : G = max q.at_ (max p.free t0) := by rw [HGE.out, HFF.out, Int.max_assoc]
  rw [← e]
  refine ⟨One.mk5 ht5.size HD5.out, ⟨_, HR3.out.keep fun k hl _ => ?_, rfl, fun k hk => hk⟩, ht6⟩
  rw [Below.heap_alloc _ _ _ (Nat.lt_of_lt_of_le hl HB5.out.size)]
  exact HB5.out.block k hl
end Go.Proofs.Ytkdnkjjnmadhgaa.Dev

