import Derived.Test.YtkdnkjjnmadhgaaGA
set_option linter.unusedVariables false
set_option linter.unusedSimpArgs false
/-! A disk does a request: a bad block; a write. (Printed by mk_gb.py.) -/
namespace Go.Proofs.Ytkdnkjjnmadhgaa.Dev
open Go.RowKit Go.Maps

theorem infoG116 : (Try.prog.info? 116).map (fun i => (i.zero, i.size, i.bytes)) = some (some (.agg #[.int .i64 0, .int .i64 0, .slice none 0 0]), 3, 40) := by kernel_rfl
set_option maxRecDepth 100000 in
theorem buildG116 (w : World) (a b c : Value) : (Instr.buildSlice 104 1 #[(0, .agg #[a, b, c])]).run Try.prog w = .ok (.slice (some ⟨w.heap.size, 0, none⟩) 1 1) (w.alloc (.cells #[a, b, c] 116)) := by
  go_simp
theorem All2.set {α β : Type} {R : α → β → Prop} {l : List α} {m : List β} {x : α} {y : β} (h : All2 R l m) (hxy : R x y) (k : Nat) : All2 R (l.set k x) (m.set k y) := by
  refine ⟨by simp [h.1], fun i a b ha hb => ?_⟩
  rw [List.getElem?_set] at ha hb
  by_cases hk : k = i
  · subst hk
    by_cases hl : k < l.length
    · rw [if_pos rfl, if_pos hl] at ha
      rw [if_pos rfl, if_pos (by rw [← h.1]; exact hl)] at hb
      injection ha with ha
      injection hb with hb
      subst ha hb
      exact hxy
    · rw [if_pos rfl, if_neg hl] at ha
      cases ha
  · rw [if_neg hk] at ha hb
    exact h.2 i a b ha hb
/-- What no block of the disk but those of set S changes. -/
theorem DRep.own_ne {B d : Nat} {m : DM} {p : PD} {w : World} (h : DRep B w d m p) : (slv m.vb).ownBlock ≠ some d ∧ (slv m.vo).ownBlock ≠ some d ∧ (slv m.vw).ownBlock ≠ some d :=
  ⟨own_ty h.rb h.cells (by decide), own_ty h.ro h.cells (by decide), own_ty h.rw h.cells (by decide)⟩
/-- A block of the disk is set. -/
theorem DRep.putblk {B d : Nat} {m : DM} {p : PD} {w : World} (h : DRep B w d m p) {g k : Nat} {v : Sl} {xs : List Value} (hg : (slv m.vb).ownBlock = some g) (hk : k < m.sb.length) (hv : Held B 5 w v xs) :
    DRep B (w.setCell ⟨g, k, none⟩ (slv v)) d { m with sb := m.sb.set k v } { p with blocks := p.blocks.set k xs } := by
  obtain ⟨hgb, cur, hgc⟩ := own_block h.rb hg
  have ho : ∀ i, i ≠ g → (w.setCell ⟨g, k, none⟩ (slv v)).heap[i]? = w.heap[i]? := fun i hi => Below.heap_setCell w _ _ _ hi
  have hne := h.own_ne
  have hheld2 : ∀ {ty : TypeId} {v' : Sl} {xs : List Value}, ty ≠ 39 → Held B ty w v' xs → Held B ty (w.setCell ⟨g, k, none⟩ (slv v)) v' xs := fun {ty v' xs} hty hh => hh.keep fun i _ hi => ho i fun e => by
    subst e
    rcases hi with hi | ⟨cur', hi⟩
    · omega
    · rw [hgc] at hi
      simp at hi
      exact hty hi.2.symm
  refine ⟨h.low, (ho d fun e => hne.1 (by rw [hg, e])).trans h.cells, ?_, own_keep h.ro fun i hi _ => ho i fun e => h.ne g hg (e ▸ hi), own_keep h.rw fun i hi _ => ho i fun e => by
    subst e
    exact own_ty h.rw hgc (by decide) hi, h.ne, ?_, h.ho.mono fun _ _ hh => hheld2 (by decide) hh, h.hw.mono fun _ _ hh => ⟨hh.1, hh.2.1, hheld2 (by decide) hh.2.2⟩, hheld2 (by decide) h.hd⟩
  · show (w.setCell ⟨g, k, none⟩ (slv v)).ownsRow B 39 1 (slv m.vb) (m.sb.set k v).length ((m.sb.set k v).map slv)
    rw [List.length_set, List.map_set]
    exact row_set h.rb hg (by omega) _
  · exact (h.hb.mono fun _ _ hh => hheld2 (by decide) hh).set (hheld2 (by decide) hv) k
/-- A write is noted. -/
theorem DRep.addw {B d : Nat} {m : DM} {p : PD} {w w7 : World} (h : DRep B w d m p) {v' : Sl} {x : Int × Int × Sl} {xs : List Value} (hrow : w7.ownsRow B 116 3 (slv v') (m.sw.length + 1) (m.sw.flatMap encW ++ encW x))
    (hk : ∀ k, k < w.heap.size → (slv m.vw).ownBlock ≠ some k → w7.heap[k]? = w.heap[k]?) (hx : Held B 5 w x.2.2 xs) :
    DRep B (w7.setCell ⟨d, 2, none⟩ (slv v')) d { m with vw := v', sw := m.sw ++ [x] } { p with writes := p.writes ++ [(x.1, x.2.1, xs)] } := by
  have hne := h.own_ne
  have hd7 := (hk d (blt h.cells) hne.2.2).trans h.cells
  have ho : ∀ i, i < w.heap.size → i ≠ d → (slv m.vw).ownBlock ≠ some i → (w7.setCell ⟨d, 2, none⟩ (slv v')).heap[i]? = w.heap[i]? := fun i hl hi hw => (Below.heap_setCell w7 _ _ _ hi).trans (hk i hl hw)
  have hheld : ∀ {ty : TypeId} {u : Sl} {ys : List Value}, ty = 5 ∨ ty = 3 → Held B ty w u ys → Held B ty (w7.setCell ⟨d, 2, none⟩ (slv v')) u ys := fun {ty u ys} hty hh => hh.stays hty fun i hl hi => ho i hl (fun e => by
      subst e
      exact (h.apart (.inl rfl)).2.2 hi) (fun e => (h.apart (.inr (.inr (.inr e)))).2.2 hi)
  refine ⟨h.low, ?_, own_keep h.rb fun i hi hl => ho i hl (fun e => hne.1 (by rw [hi, e])) fun e => own_own h.rb h.rw (by decide) hi e, own_keep h.ro fun i hi hl => ho i hl (fun e => hne.2.1 (by rw [hi, e])) fun e => own_own h.ro h.rw (by decide) hi e, ?_, h.ne, h.hb.mono fun _ _ hh => hheld (.inl rfl) hh, h.ho.mono fun _ _ hh => hheld (.inl rfl) hh, ?_, hheld (.inr rfl) h.hd⟩
  · have := set_same hd7 2 (slv v')
    simpa using this
  · show (w7.setCell ⟨d, 2, none⟩ (slv v')).ownsRow B 116 3 (slv v') (m.sw ++ [x]).length ((m.sw ++ [x]).flatMap encW)
    rw [List.length_append, List.length_singleton, List.flatMap_append, List.flatMap_singleton]
    exact own_keep hrow fun i hi _ => Below.heap_setCell w7 _ _ _ fun e => by
      have e : i = d := e
      subst e
      exact own_ty hrow hd7 (by decide) hi
  · exact (h.hw.mono fun _ _ hh => ⟨hh.1, hh.2.1, hheld (.inl rfl) hh.2.2⟩).snoc ⟨rfl, rfl, hheld (.inl rfl) hx⟩

set_option maxHeartbeats 4000000 in
set_option maxRecDepth 100000 in
/-- A bad block. -/
theorem send_bad_r (w : World) (B d : Nat) (m : DM) (p : PD) (q : Rq) (h : DRep B w d m p) (hf : DFit p q) (hq : q.do_ = 1) (ha : 0 ≤ q.a_) (ha2 : q.a_ < (p.blocks.length : Int)) (hdata : q.dv.2.1 = 0) (hbad : q.a_ ∈ p.bad) :
    Calls Try.prog 90 #[ptr d, .agg (encQ q).toArray] w fun e w' => One B w q (moveF p q) (-200) [] e w' ∧ DRep B w' d m { p with arm := q.a_, free := moveF p q } ∧ Touch w w' (· = d) := by
  obtain ⟨W, hW⟩ : ∃ W, W = w.alloc (.cells (encQ q).toArray 99) := ⟨_, rfl⟩
  have hbw : Below w.heap.size w W := by rw [hW]; exact (Below.refl _ _).alloc (Nat.le_refl _) _
  have gb : Box W w.heap.size q := by rw [hW]; exact alloc_new _ _
  have hr : DRep B W d m p := h.keep fun k hl _ => hbw.block k hl
  have hdl : d < w.heap.size := blt h.cells
  generalize hQ : (Value.agg (encQ q).toArray) = Q
  go_enter Try.func90, Try.ntmps90
  subst hQ
  go_upto_region 1 with (fail)
  rw [← hW]
  obtain ⟨z0, z1, z2, z3, z4, z5, z6⟩ := gb.all
  obtain ⟨c0, c3, c4, c5, f4, f5⟩ := hr.all
  rw [hq] at z1
  rw [hdata] at z4
  have hne : w.heap.size ≠ d := by omega
  have HR := Lib.hid hr
  have H := Lib.hid h
  have GB := Lib.hid gb
  have HB := Lib.hid hbw
  have HF := Lib.hid hf
  have HQ := Lib.hid hq
  have HD := Lib.hid hdata
  have HA := Lib.hid ha
  have HX := Lib.hid ha2
  have HBAD := Lib.hid hbad
  have HDL := Lib.hid hdl
  have HNE := Lib.hid hne
  clear hW h hr gb hbw hf hq hdata ha ha2 hbad hdl hne
  go_quiet (fail)
  go_upto_region 3 with (fail)
  obtain ⟨F, hF⟩ : ∃ F, F = max q.at_ p.free := ⟨_, rfl⟩
  rw [← hF]
  obtain ⟨W1, hW1⟩ : ∃ W1, W1 = (W.drewN nq).setCell ⟨d, 5, none⟩ (.int .i64 F) := ⟨_, rfl⟩
  rw [← hW1]
  have hr1 : DRep B W1 d m { p with free := F } := by rw [hW1]; exact HR.out.put5 nq F
  have gb1 : Box W1 w.heap.size q := by rw [hW1]; exact GB.out.put HNE.out nq 5 _
  have ht1 : Touch W W1 (· = d) := by rw [hW1]; exact (Touch.drewN W nq _).trans (Touch.setCell _ _ _ (S := (· = d)) rfl)
  clear z0 z1 z2 z3 z4 z5 z6 c0 c3 c4 c5 f4 f5
  obtain ⟨z0, z1, z2, z3, z4, z5, z6⟩ := gb1.all
  obtain ⟨c0, c3, c4, c5, f4, f5⟩ := hr1.all
  rw [HQ.out] at z1
  rw [HD.out] at z4
  have HR1 := Lib.hid hr1
  have GB1 := Lib.hid gb1
  have HT1 := Lib.hid ht1
  have HFF := Lib.hid hF
  clear hr1 gb1 ht1 hF hW1
  have hd1 : decide (q.a_ < 0) = false := by simpa using HA.out
  have hlen : q.a_.toNat < m.vb.2.1 := by rw [HR.out.vbn]; have := HX.out; have := HA.out; omega
  have hd2 : decide ((m.vb.2.1 : Int) ≤ q.a_) = false := by have := HA.out; simp; omega
  go_upto_region 5 with (fail)
  go_quiet (fail)
  go_upto_region 9 with (fail)
  have HL := Lib.hid hlen
  have hF0 : 0 ≤ F ∧ F ≤ 2000000000 := by rw [HFF.out]; have := HF.out.at0; have := HF.out.at1; have := HF.out.f0; have := HF.out.f1; omega
  have ha1 : q.a_ ≤ 1000000 := by have := HF.out.nb; rw [HR.out.vbn] at hlen; omega
  have ha0 := HA.out
  have hr0 := HF.out.a0
  have hr1 := HF.out.a1
  obtain ⟨G, hG⟩ : ∃ G, G = moveF p q := ⟨_, rfl⟩
  have hGF : F + 1 + max (q.a_ - p.arm) (p.arm - q.a_) = G := by rw [hG, HFF.out]; rfl
  have k1 : IntKind.i64.wrap (F + 1) = F + 1 := by rw [IntKind.wrap_i64]; omega
  have k2 : IntKind.i64.wrap (q.a_ - p.arm) = q.a_ - p.arm := by rw [IntKind.wrap_i64]; omega
  have k3 : IntKind.i64.wrap (p.arm - q.a_) = p.arm - q.a_ := by rw [IntKind.wrap_i64]; omega
  have k4 : IntKind.i64.wrap (F + 1 + max (q.a_ - p.arm) (p.arm - q.a_)) = G := by rw [hGF, IntKind.wrap_i64]; omega
  clear hlen hd2 hd1 hF0 ha1 ha0 hr0 hr1 hGF
  have HG := Lib.hid hG
  clear hG
  obtain ⟨n1, hn1⟩ : ∃ n1, n1 = nq := ⟨_, rfl⟩
  obtain ⟨C, hCd⟩ : ∃ C : World → Prop, ∀ z, C z ↔ (z.cell? ⟨w.heap.size, 2, none⟩ = some (.int .i64 q.a_) ∧ z.cell? ⟨d, 4, none⟩ = some (.int .i64 p.arm)) := ⟨_, fun _ => Iff.rfl⟩
  have s2 : ∀ s : {z : World // C z}, s.1.cell? ⟨w.heap.size, 2, none⟩ = some (.int .i64 q.a_) := fun s => ((hCd s.1).1 s.2).1
  have s4 : ∀ s : {z : World // C z}, s.1.cell? ⟨d, 4, none⟩ = some (.int .i64 p.arm) := fun s => ((hCd s.1).1 s.2).2
  haveI : Nonempty {z : World // C z} := ⟨⟨W1, (hCd _).2 ⟨z2, c4⟩⟩⟩
  refine Mix.wp_region_mix C [23] (by kernel_rfl) (by kernel_rfl) ((hCd _).2 ⟨z2, c4⟩) ?_
  have HCD := Lib.hid hCd
  clear hCd
  repeat (refine Mix.mix_still rfl (fun K hK => ?_); go_simp; refine hK _ ?_; clear hK K)
  refine Mix.mix_eff rfl ?_
  go_wp2
  refine Mix.mix_nil ?_
  go_upto_region 11 with (fail)
  obtain ⟨W3, hW3⟩ : ∃ W3, W3 = ((W1.drewN (nq + 1)).setCell ⟨d, 5, none⟩ (.int .i64 G)).setCell ⟨d, 4, none⟩ (.int .i64 q.a_) := ⟨_, rfl⟩
  rw [← hW3]
  have hr3 : DRep B W3 d m { p with arm := q.a_, free := G } := by rw [hW3]; have := (HR1.out.put5 (nq + 1) G).put4 0 q.a_; rwa [World.drewN_zero] at this
  have gb3 : Box W3 w.heap.size q := by rw [hW3]; have := (GB1.out.put HNE.out (nq + 1) 5 (.int .i64 G)).put HNE.out 0 4 (.int .i64 q.a_); rwa [World.drewN_zero] at this
  have ht3 : Touch W1 W3 (· = d) := by rw [hW3]; exact ((Touch.drewN W1 (nq + 1) _).trans (Touch.setCell _ _ _ (S := (· = d)) rfl)).trans (Touch.setCell _ _ _ (S := (· = d)) rfl)
  clear z0 z1 z2 z3 z4 z5 z6 c0 c3 c4 c5 f4 f5 k1 k2 k3 k4 s2 s4
  obtain ⟨z0, z1, z2, z3, z4, z5, z6⟩ := gb3.all
  obtain ⟨c0, c3, c4, c5, f4, f5⟩ := hr3.all
  have hbf : decide (q.a_ ∈ p.bad) = true := by simpa using HBAD.out
  have C93 := Lib.hid (fun n => contains_any (W3.drewN n) B m.vd p.bad q.a_ hr3.hd HF.out.bad)
  rw [hbf] at C93
  have hbox : (encQ q).toArray = #[.int .i64 q.pk, .int .i64 1, .int .i64 q.a_, .int .i64 q.b_, .slice q.dv.1 0 q.dv.2.2, .int .i64 q.at_, .int .i64 q.ord] := by
    unfold encQ
    rw [HQ.out]
    simp only [slv, HD.out]
  have hB3 : B ≤ W3.heap.size := by
    have := hr3.low
    have := blt hr3.cells
    omega
  have C92 := Lib.hid (fun n => refuse_any (W3.drewN n).drew B q G 200 hB3 (by decide))
  rw [hbox] at C92
  unfold encR at C92
  have HR3 := Lib.hid hr3
  have HT3 := Lib.hid ht3
  clear hr3 gb3 ht3 hW3 hbf hbox hB3
  rw [HQ.out] at z1
  rw [HD.out] at z4
  go_quiet (((refine (C93.out _).mono ?_); (intro e w' h; exact ⟨h.1, _, h.2⟩)))
  go_upto_region 12 with (fail)
  obtain ⟨C, hCd⟩ : ∃ C : World → Prop, ∀ z, C z ↔ (z.cell? ⟨w.heap.size, 0, none⟩ = some (.int .i64 q.pk) ∧ z.cell? ⟨w.heap.size, 1, none⟩ = some (.int .i64 1) ∧ z.cell? ⟨w.heap.size, 2, none⟩ = some (.int .i64 q.a_) ∧ z.cell? ⟨w.heap.size, 3, none⟩ = some (.int .i64 q.b_) ∧ z.cell? ⟨w.heap.size, 4, none⟩ = some (.slice q.dv.1 0 q.dv.2.2) ∧ z.cell? ⟨w.heap.size, 5, none⟩ = some (.int .i64 q.at_) ∧ z.cell? ⟨w.heap.size, 6, none⟩ = some (.int .i64 q.ord) ∧ z.cell? ⟨d, 5, none⟩ = some (.int .i64 G)) := ⟨_, fun _ => Iff.rfl⟩
  have s0 := fun s : {z : World // C z} => ((hCd s.1).1 s.2).1
  have s1 := fun s : {z : World // C z} => ((hCd s.1).1 s.2).2.1
  have s2 := fun s : {z : World // C z} => ((hCd s.1).1 s.2).2.2.1
  have s3 := fun s : {z : World // C z} => ((hCd s.1).1 s.2).2.2.2.1
  have s4 := fun s : {z : World // C z} => ((hCd s.1).1 s.2).2.2.2.2.1
  have s5 := fun s : {z : World // C z} => ((hCd s.1).1 s.2).2.2.2.2.2.1
  have s6 := fun s : {z : World // C z} => ((hCd s.1).1 s.2).2.2.2.2.2.2.1
  have s7 := fun s : {z : World // C z} => ((hCd s.1).1 s.2).2.2.2.2.2.2.2
  have hC0 := (hCd (W3.drewN nq).drew).2 ⟨z0, z1, z2, z3, z4, z5, z6, c5⟩
  haveI : Nonempty {z : World // C z} := ⟨⟨(W3.drewN nq).drew, hC0⟩⟩
  refine Mix.wp_region_mix C [5, 6] (by kernel_rfl) (by kernel_rfl) hC0 ?_
  have HCD := Lib.hid hCd
  have HC0 := Lib.hid hC0
  clear hCd hC0 z0 z1 z2 z3 z4 z5 z6 c0 c3 c4 c5 f4 f5
  repeat (refine Mix.mix_still rfl (fun K hK => ?_); go_simp; refine hK _ ?_; clear hK K)
  refine Mix.mix_eff rfl ?_
  go_wp2_with (go_at_call 92; (refine (C92.out _).mono ?_); rintro e w5 ⟨dv, rfl, hb5, hd5⟩; have HB5 := Lib.hid (Below.mk (B := W3.heap.size) (w := W3) hb5.os hb5.tape hb5.output hb5.size hb5.block); have HD5 := Lib.hid hd5; clear hb5 hd5)
  have hk5 : ∀ {a : Addr} {v : Value}, (W3.drewN nq).drew.cell? a = some v → w5.cell? a = some v := fun h => (HB5.out.cell (lt_of_cell h)).trans h
  obtain ⟨y0, y1, y2, y3, y4, y5, y6, y7⟩ := (HCD.out _).1 HC0.out
  refine ⟨(HCD.out _).2 ⟨hk5 y0, hk5 y1, hk5 y2, hk5 y3, hk5 y4, hk5 y5, hk5 y6, hk5 y7⟩, ?_⟩
  refine Mix.mix_eff rfl ?_
  go_wp2
  refine ⟨(HCD.out _).2 ⟨Lib.cell?_alloc_some _ (hk5 y0), Lib.cell?_alloc_some _ (hk5 y1), Lib.cell?_alloc_some _ (hk5 y2), Lib.cell?_alloc_some _ (hk5 y3), Lib.cell?_alloc_some _ (hk5 y4), Lib.cell?_alloc_some _ (hk5 y5), Lib.cell?_alloc_some _ (hk5 y6), Lib.cell?_alloc_some _ (hk5 y7)⟩, ?_⟩
  clear hk5 y0 y1 y2 y3 y4 y5 y6 y7
  repeat (refine Mix.mix_still rfl (fun K hK => ?_); go_simp; refine hK _ ?_; clear hK K)
  refine Mix.mix_nil ?_
  go_wp2
  go_ret
  have ht5 : Touch w w5 (· = d) := (((Touch.of_below HB.out).trans HT1.out).trans HT3.out).trans (Touch.of_below HB5.out)
  have ht6 := ht5.trans (Touch.alloc w5 (.cells #[.int .i64 q.pk, .int .i64 G, .int .i64 (-200), slv dv, .int .i64 0, .int .i64 q.ord] 95) (· = d))
  rw [← HG.out]
  refine ⟨One.mk5 ht5.size HD5.out, HR3.out.keep fun k hl _ => ?_, ht6⟩
  rw [Below.heap_alloc _ _ _ (Nat.lt_of_lt_of_le hl HB5.out.size)]
  exact HB5.out.block k hl

set_option maxHeartbeats 4000000 in
set_option maxRecDepth 100000 in
/-- A bad block. -/
theorem send_bad_w (w : World) (B d : Nat) (m : DM) (p : PD) (q : Rq) (h : DRep B w d m p) (hf : DFit p q) (hq : q.do_ = 2) (ha : 0 ≤ q.a_) (ha2 : q.a_ < (p.blocks.length : Int)) (hdata : q.dv.2.1 = 64) (hbad : q.a_ ∈ p.bad) :
    Calls Try.prog 90 #[ptr d, .agg (encQ q).toArray] w fun e w' => One B w q (moveF p q) (-200) [] e w' ∧ DRep B w' d m { p with arm := q.a_, free := moveF p q } ∧ Touch w w' (· = d) := by
  obtain ⟨W, hW⟩ : ∃ W, W = w.alloc (.cells (encQ q).toArray 99) := ⟨_, rfl⟩
  have hbw : Below w.heap.size w W := by rw [hW]; exact (Below.refl _ _).alloc (Nat.le_refl _) _
  have gb : Box W w.heap.size q := by rw [hW]; exact alloc_new _ _
  have hr : DRep B W d m p := h.keep fun k hl _ => hbw.block k hl
  have hdl : d < w.heap.size := blt h.cells
  generalize hQ : (Value.agg (encQ q).toArray) = Q
  go_enter Try.func90, Try.ntmps90
  subst hQ
  go_upto_region 1 with (fail)
  rw [← hW]
  obtain ⟨z0, z1, z2, z3, z4, z5, z6⟩ := gb.all
  obtain ⟨c0, c3, c4, c5, f4, f5⟩ := hr.all
  rw [hq] at z1
  rw [hdata] at z4
  have hne : w.heap.size ≠ d := by omega
  have HR := Lib.hid hr
  have H := Lib.hid h
  have GB := Lib.hid gb
  have HB := Lib.hid hbw
  have HF := Lib.hid hf
  have HQ := Lib.hid hq
  have HD := Lib.hid hdata
  have HA := Lib.hid ha
  have HX := Lib.hid ha2
  have HBAD := Lib.hid hbad
  have HDL := Lib.hid hdl
  have HNE := Lib.hid hne
  clear hW h hr gb hbw hf hq hdata ha ha2 hbad hdl hne
  go_quiet (fail)
  go_upto_region 3 with (fail)
  obtain ⟨F, hF⟩ : ∃ F, F = max q.at_ p.free := ⟨_, rfl⟩
  rw [← hF]
  obtain ⟨W1, hW1⟩ : ∃ W1, W1 = (W.drewN nq).setCell ⟨d, 5, none⟩ (.int .i64 F) := ⟨_, rfl⟩
  rw [← hW1]
  have hr1 : DRep B W1 d m { p with free := F } := by rw [hW1]; exact HR.out.put5 nq F
  have gb1 : Box W1 w.heap.size q := by rw [hW1]; exact GB.out.put HNE.out nq 5 _
  have ht1 : Touch W W1 (· = d) := by rw [hW1]; exact (Touch.drewN W nq _).trans (Touch.setCell _ _ _ (S := (· = d)) rfl)
  clear z0 z1 z2 z3 z4 z5 z6 c0 c3 c4 c5 f4 f5
  obtain ⟨z0, z1, z2, z3, z4, z5, z6⟩ := gb1.all
  obtain ⟨c0, c3, c4, c5, f4, f5⟩ := hr1.all
  rw [HQ.out] at z1
  rw [HD.out] at z4
  have HR1 := Lib.hid hr1
  have GB1 := Lib.hid gb1
  have HT1 := Lib.hid ht1
  have HFF := Lib.hid hF
  clear hr1 gb1 ht1 hF hW1
  have hd1 : decide (q.a_ < 0) = false := by simpa using HA.out
  have hlen : q.a_.toNat < m.vb.2.1 := by rw [HR.out.vbn]; have := HX.out; have := HA.out; omega
  have hd2 : decide ((m.vb.2.1 : Int) ≤ q.a_) = false := by have := HA.out; simp; omega
  go_upto_region 5 with (fail)
  go_quiet (fail)
  go_upto_region 9 with (fail)
  have HL := Lib.hid hlen
  have hF0 : 0 ≤ F ∧ F ≤ 2000000000 := by rw [HFF.out]; have := HF.out.at0; have := HF.out.at1; have := HF.out.f0; have := HF.out.f1; omega
  have ha1 : q.a_ ≤ 1000000 := by have := HF.out.nb; rw [HR.out.vbn] at hlen; omega
  have ha0 := HA.out
  have hr0 := HF.out.a0
  have hr1 := HF.out.a1
  obtain ⟨G, hG⟩ : ∃ G, G = moveF p q := ⟨_, rfl⟩
  have hGF : F + 1 + max (q.a_ - p.arm) (p.arm - q.a_) = G := by rw [hG, HFF.out]; rfl
  have k1 : IntKind.i64.wrap (F + 1) = F + 1 := by rw [IntKind.wrap_i64]; omega
  have k2 : IntKind.i64.wrap (q.a_ - p.arm) = q.a_ - p.arm := by rw [IntKind.wrap_i64]; omega
  have k3 : IntKind.i64.wrap (p.arm - q.a_) = p.arm - q.a_ := by rw [IntKind.wrap_i64]; omega
  have k4 : IntKind.i64.wrap (F + 1 + max (q.a_ - p.arm) (p.arm - q.a_)) = G := by rw [hGF, IntKind.wrap_i64]; omega
  clear hlen hd2 hd1 hF0 ha1 ha0 hr0 hr1 hGF
  have HG := Lib.hid hG
  clear hG
  obtain ⟨n1, hn1⟩ : ∃ n1, n1 = nq := ⟨_, rfl⟩
  obtain ⟨C, hCd⟩ : ∃ C : World → Prop, ∀ z, C z ↔ (z.cell? ⟨w.heap.size, 2, none⟩ = some (.int .i64 q.a_) ∧ z.cell? ⟨d, 4, none⟩ = some (.int .i64 p.arm)) := ⟨_, fun _ => Iff.rfl⟩
  have s2 : ∀ s : {z : World // C z}, s.1.cell? ⟨w.heap.size, 2, none⟩ = some (.int .i64 q.a_) := fun s => ((hCd s.1).1 s.2).1
  have s4 : ∀ s : {z : World // C z}, s.1.cell? ⟨d, 4, none⟩ = some (.int .i64 p.arm) := fun s => ((hCd s.1).1 s.2).2
  haveI : Nonempty {z : World // C z} := ⟨⟨W1, (hCd _).2 ⟨z2, c4⟩⟩⟩
  refine Mix.wp_region_mix C [23] (by kernel_rfl) (by kernel_rfl) ((hCd _).2 ⟨z2, c4⟩) ?_
  have HCD := Lib.hid hCd
  clear hCd
  repeat (refine Mix.mix_still rfl (fun K hK => ?_); go_simp; refine hK _ ?_; clear hK K)
  refine Mix.mix_eff rfl ?_
  go_wp2
  refine Mix.mix_nil ?_
  go_upto_region 11 with (fail)
  obtain ⟨W3, hW3⟩ : ∃ W3, W3 = ((W1.drewN (nq + 1)).setCell ⟨d, 5, none⟩ (.int .i64 G)).setCell ⟨d, 4, none⟩ (.int .i64 q.a_) := ⟨_, rfl⟩
  rw [← hW3]
  have hr3 : DRep B W3 d m { p with arm := q.a_, free := G } := by rw [hW3]; have := (HR1.out.put5 (nq + 1) G).put4 0 q.a_; rwa [World.drewN_zero] at this
  have gb3 : Box W3 w.heap.size q := by rw [hW3]; have := (GB1.out.put HNE.out (nq + 1) 5 (.int .i64 G)).put HNE.out 0 4 (.int .i64 q.a_); rwa [World.drewN_zero] at this
  have ht3 : Touch W1 W3 (· = d) := by rw [hW3]; exact ((Touch.drewN W1 (nq + 1) _).trans (Touch.setCell _ _ _ (S := (· = d)) rfl)).trans (Touch.setCell _ _ _ (S := (· = d)) rfl)
  clear z0 z1 z2 z3 z4 z5 z6 c0 c3 c4 c5 f4 f5 k1 k2 k3 k4 s2 s4
  obtain ⟨z0, z1, z2, z3, z4, z5, z6⟩ := gb3.all
  obtain ⟨c0, c3, c4, c5, f4, f5⟩ := hr3.all
  have hbf : decide (q.a_ ∈ p.bad) = true := by simpa using HBAD.out
  have C93 := Lib.hid (fun n => contains_any (W3.drewN n) B m.vd p.bad q.a_ hr3.hd HF.out.bad)
  rw [hbf] at C93
  have hbox : (encQ q).toArray = #[.int .i64 q.pk, .int .i64 2, .int .i64 q.a_, .int .i64 q.b_, .slice q.dv.1 64 q.dv.2.2, .int .i64 q.at_, .int .i64 q.ord] := by
    unfold encQ
    rw [HQ.out]
    simp only [slv, HD.out]
  have hB3 : B ≤ W3.heap.size := by
    have := hr3.low
    have := blt hr3.cells
    omega
  have C92 := Lib.hid (fun n => refuse_any (W3.drewN n).drew B q G 200 hB3 (by decide))
  rw [hbox] at C92
  unfold encR at C92
  have HR3 := Lib.hid hr3
  have HT3 := Lib.hid ht3
  clear hr3 gb3 ht3 hW3 hbf hbox hB3
  rw [HQ.out] at z1
  rw [HD.out] at z4
  go_quiet (((refine (C93.out _).mono ?_); (intro e w' h; exact ⟨h.1, _, h.2⟩)))
  go_upto_region 12 with (fail)
  obtain ⟨C, hCd⟩ : ∃ C : World → Prop, ∀ z, C z ↔ (z.cell? ⟨w.heap.size, 0, none⟩ = some (.int .i64 q.pk) ∧ z.cell? ⟨w.heap.size, 1, none⟩ = some (.int .i64 2) ∧ z.cell? ⟨w.heap.size, 2, none⟩ = some (.int .i64 q.a_) ∧ z.cell? ⟨w.heap.size, 3, none⟩ = some (.int .i64 q.b_) ∧ z.cell? ⟨w.heap.size, 4, none⟩ = some (.slice q.dv.1 64 q.dv.2.2) ∧ z.cell? ⟨w.heap.size, 5, none⟩ = some (.int .i64 q.at_) ∧ z.cell? ⟨w.heap.size, 6, none⟩ = some (.int .i64 q.ord) ∧ z.cell? ⟨d, 5, none⟩ = some (.int .i64 G)) := ⟨_, fun _ => Iff.rfl⟩
  have s0 := fun s : {z : World // C z} => ((hCd s.1).1 s.2).1
  have s1 := fun s : {z : World // C z} => ((hCd s.1).1 s.2).2.1
  have s2 := fun s : {z : World // C z} => ((hCd s.1).1 s.2).2.2.1
  have s3 := fun s : {z : World // C z} => ((hCd s.1).1 s.2).2.2.2.1
  have s4 := fun s : {z : World // C z} => ((hCd s.1).1 s.2).2.2.2.2.1
  have s5 := fun s : {z : World // C z} => ((hCd s.1).1 s.2).2.2.2.2.2.1
  have s6 := fun s : {z : World // C z} => ((hCd s.1).1 s.2).2.2.2.2.2.2.1
  have s7 := fun s : {z : World // C z} => ((hCd s.1).1 s.2).2.2.2.2.2.2.2
  have hC0 := (hCd (W3.drewN nq).drew).2 ⟨z0, z1, z2, z3, z4, z5, z6, c5⟩
  haveI : Nonempty {z : World // C z} := ⟨⟨(W3.drewN nq).drew, hC0⟩⟩
  refine Mix.wp_region_mix C [5, 6] (by kernel_rfl) (by kernel_rfl) hC0 ?_
  have HCD := Lib.hid hCd
  have HC0 := Lib.hid hC0
  clear hCd hC0 z0 z1 z2 z3 z4 z5 z6 c0 c3 c4 c5 f4 f5
  repeat (refine Mix.mix_still rfl (fun K hK => ?_); go_simp; refine hK _ ?_; clear hK K)
  refine Mix.mix_eff rfl ?_
  go_wp2_with (go_at_call 92; (refine (C92.out _).mono ?_); rintro e w5 ⟨dv, rfl, hb5, hd5⟩; have HB5 := Lib.hid (Below.mk (B := W3.heap.size) (w := W3) hb5.os hb5.tape hb5.output hb5.size hb5.block); have HD5 := Lib.hid hd5; clear hb5 hd5)
  have hk5 : ∀ {a : Addr} {v : Value}, (W3.drewN nq).drew.cell? a = some v → w5.cell? a = some v := fun h => (HB5.out.cell (lt_of_cell h)).trans h
  obtain ⟨y0, y1, y2, y3, y4, y5, y6, y7⟩ := (HCD.out _).1 HC0.out
  refine ⟨(HCD.out _).2 ⟨hk5 y0, hk5 y1, hk5 y2, hk5 y3, hk5 y4, hk5 y5, hk5 y6, hk5 y7⟩, ?_⟩
  refine Mix.mix_eff rfl ?_
  go_wp2
  refine ⟨(HCD.out _).2 ⟨Lib.cell?_alloc_some _ (hk5 y0), Lib.cell?_alloc_some _ (hk5 y1), Lib.cell?_alloc_some _ (hk5 y2), Lib.cell?_alloc_some _ (hk5 y3), Lib.cell?_alloc_some _ (hk5 y4), Lib.cell?_alloc_some _ (hk5 y5), Lib.cell?_alloc_some _ (hk5 y6), Lib.cell?_alloc_some _ (hk5 y7)⟩, ?_⟩
  clear hk5 y0 y1 y2 y3 y4 y5 y6 y7
  repeat (refine Mix.mix_still rfl (fun K hK => ?_); go_simp; refine hK _ ?_; clear hK K)
  refine Mix.mix_nil ?_
  go_wp2
  go_ret
  have ht5 : Touch w w5 (· = d) := (((Touch.of_below HB.out).trans HT1.out).trans HT3.out).trans (Touch.of_below HB5.out)
  have ht6 := ht5.trans (Touch.alloc w5 (.cells #[.int .i64 q.pk, .int .i64 G, .int .i64 (-200), slv dv, .int .i64 0, .int .i64 q.ord] 95) (· = d))
  rw [← HG.out]
  refine ⟨One.mk5 ht5.size HD5.out, HR3.out.keep fun k hl _ => ?_, ht6⟩
  rw [Below.heap_alloc _ _ _ (Nat.lt_of_lt_of_le hl HB5.out.size)]
  exact HB5.out.block k hl

--WRITE
end Go.Proofs.Ytkdnkjjnmadhgaa.Dev

/-! A disk does a request: a write. (Printed by mk_gc.py.) -/
namespace Go.Proofs.Ytkdnkjjnmadhgaa.Dev
open Go.RowKit Go.Maps Go.Lib

theorem wpList_buildG {P : Program} (w : World) {ops : Array Oper} {rest : List Oper} {o : Oper} {a : Act} {Q : Exit → Act → World → Prop} (hgd : o.guard = none) (x : Operand) (t e : TypeId)
    (ho : o.op = .buildSlice t 1 #[(0, x)]) (cs : Array Value) (hx : a.eval x = .agg cs)
    (hrun : (Instr.buildSlice t 1 #[(0, .agg cs)]).run P w = .ok (.slice (some ⟨w.heap.size, 0, none⟩) 1 1) (w.alloc (.cells cs e)))
    (h : wpList P ops Q rest (a.put o.dst (.slice (some ⟨w.heap.size, 0, none⟩) 1 1)) (w.alloc (.cells cs e))) : wpList P ops Q (o :: rest) a w := by
  refine wpList_plain hgd fun K hK => ?_
  unfold Oper.wp execOp
  simp only [ho, Sem.run_bind, Result.andThen_ok, List.map_toArray, List.map_cons, List.map_nil, hx, hrun]
  exact hK _ _ h
theorem own_cap_le {w : World} {base e : Nat} {v : Sl} {n : Nat} {xs : List Value} (h : w.ownsRow base e 1 (slv v) n xs) {g : Nat} (hg : (slv v).ownBlock = some g) {cur : Array Value} {ty : TypeId} {f : Nat × Nat} (hc : w.heap[g]? = some (.cells cur ty f)) : v.2.1 ≤ cur.size := by
  rcases h.2 with ⟨hv, _⟩ | ⟨g', cap, cur', hv, hb, hh, h1, h2, h3, h4⟩
  · have := congrArg Value.ownBlock hv
    rw [hg] at this
    simp [Value.ownBlock] at this
  · have e := congrArg Value.ownBlock hv
    rw [hg] at e
    simp [Value.ownBlock] at e
    subst e
    rw [hc] at hh
    simp at hh
    obtain ⟨rfl, _, _⟩ := hh
    have e2 : v.2.1 = n := by injection hv
    omega
set_option maxHeartbeats 4000000 in
set_option maxRecDepth 100000 in
/-- A write. -/
theorem send_write (w : World) (B d : Nat) (m : DM) (p : PD) (q : Rq) (h : DRep B w d m p) (hf : DFit p q) (hq : q.do_ = 2) (ha : 0 ≤ q.a_) (ha2 : q.a_ < (p.blocks.length : Int)) (hdata : q.dv.2.1 = 64) (hbad : q.a_ ∉ p.bad) (data : List Value) (hdat : Held B 5 w q.dv data) (hwr : p.writes.length ≤ 100000) :
    Calls Try.prog 90 #[ptr d, .agg (encQ q).toArray] w fun e w' => One B w q (moveF p q) 0 [] e w' ∧ (∃ m', DRep B w' d m' { p with arm := q.a_, free := moveF p q, blocks := p.blocks.set q.a_.toNat data, writes := p.writes ++ [(moveF p q, q.a_, data)] } ∧ ∀ k, OwnD d m' k → OwnD d m k ∨ w.heap.size ≤ k) ∧ Touch w w' (OwnD d m) := by
  have HDAT := Lib.hid hdat
  have HWR := Lib.hid hwr
  clear hdat hwr
  obtain ⟨W, hW⟩ : ∃ W, W = w.alloc (.cells (encQ q).toArray 99) := ⟨_, rfl⟩
  have hbw : Below w.heap.size w W := by rw [hW]; exact (Below.refl _ _).alloc (Nat.le_refl _) _
  have gb : Box W w.heap.size q := by rw [hW]; exact alloc_new _ _
  have hr : DRep B W d m p := h.keep fun k hl _ => hbw.block k hl
  have hdl : d < w.heap.size := blt h.cells
  generalize hQ : (Value.agg (encQ q).toArray) = Q
  go_enter Try.func90, Try.ntmps90
  subst hQ
  go_upto_region 1 with (fail)
  rw [← hW]
  obtain ⟨z0, z1, z2, z3, z4, z5, z6⟩ := gb.all
  obtain ⟨c0, c3, c4, c5, f4, f5⟩ := hr.all
  rw [hq] at z1
  rw [hdata] at z4
  have hne : w.heap.size ≠ d := by omega
  have HR := Lib.hid hr
  have H := Lib.hid h
  have GB := Lib.hid gb
  have HB := Lib.hid hbw
  have HF := Lib.hid hf
  have HQ := Lib.hid hq
  have HD := Lib.hid hdata
  have HA := Lib.hid ha
  have HX := Lib.hid ha2
  have HBAD := Lib.hid hbad
  have HDL := Lib.hid hdl
  have HNE := Lib.hid hne
  clear hW h hr gb hbw hf hq hdata ha ha2 hbad hdl hne
  go_quiet (fail)
  go_upto_region 3 with (fail)
  obtain ⟨F, hF⟩ : ∃ F, F = max q.at_ p.free := ⟨_, rfl⟩
  rw [← hF]
  obtain ⟨W1, hW1⟩ : ∃ W1, W1 = (W.drewN nq).setCell ⟨d, 5, none⟩ (.int .i64 F) := ⟨_, rfl⟩
  rw [← hW1]
  have hr1 : DRep B W1 d m { p with free := F } := by rw [hW1]; exact HR.out.put5 nq F
  have gb1 : Box W1 w.heap.size q := by rw [hW1]; exact GB.out.put HNE.out nq 5 _
  have ht1 : Touch W W1 (· = d) := by rw [hW1]; exact (Touch.drewN W nq _).trans (Touch.setCell _ _ _ (S := (· = d)) rfl)
  clear z0 z1 z2 z3 z4 z5 z6 c0 c3 c4 c5 f4 f5
  obtain ⟨z0, z1, z2, z3, z4, z5, z6⟩ := gb1.all
  obtain ⟨c0, c3, c4, c5, f4, f5⟩ := hr1.all
  rw [HQ.out] at z1
  rw [HD.out] at z4
  have HR1 := Lib.hid hr1
  have GB1 := Lib.hid gb1
  have HT1 := Lib.hid ht1
  have HFF := Lib.hid hF
  clear hr1 gb1 ht1 hF hW1
  have hd1 : decide (q.a_ < 0) = false := by simpa using HA.out
  have hlen : q.a_.toNat < m.vb.2.1 := by rw [HR.out.vbn]; have := HX.out; have := HA.out; omega
  have hd2 : decide ((m.vb.2.1 : Int) ≤ q.a_) = false := by have := HA.out; simp; omega
  go_upto_region 5 with (fail)
  go_quiet (fail)
  go_upto_region 9 with (fail)
  have HL := Lib.hid hlen
  have hF0 : 0 ≤ F ∧ F ≤ 2000000000 := by rw [HFF.out]; have := HF.out.at0; have := HF.out.at1; have := HF.out.f0; have := HF.out.f1; omega
  have ha1 : q.a_ ≤ 1000000 := by have := HF.out.nb; rw [HR.out.vbn] at hlen; omega
  have ha0 := HA.out
  have hr0 := HF.out.a0
  have hr1 := HF.out.a1
  obtain ⟨G, hG⟩ : ∃ G, G = moveF p q := ⟨_, rfl⟩
  have hGF : F + 1 + max (q.a_ - p.arm) (p.arm - q.a_) = G := by rw [hG, HFF.out]; rfl
  have k1 : IntKind.i64.wrap (F + 1) = F + 1 := by rw [IntKind.wrap_i64]; omega
  have k2 : IntKind.i64.wrap (q.a_ - p.arm) = q.a_ - p.arm := by rw [IntKind.wrap_i64]; omega
  have k3 : IntKind.i64.wrap (p.arm - q.a_) = p.arm - q.a_ := by rw [IntKind.wrap_i64]; omega
  have k4 : IntKind.i64.wrap (F + 1 + max (q.a_ - p.arm) (p.arm - q.a_)) = G := by rw [hGF, IntKind.wrap_i64]; omega
  clear hlen hd2 hd1 hF0 ha1 ha0 hr0 hr1 hGF
  have HG := Lib.hid hG
  clear hG
  obtain ⟨n1, hn1⟩ : ∃ n1, n1 = nq := ⟨_, rfl⟩
  obtain ⟨C, hCd⟩ : ∃ C : World → Prop, ∀ z, C z ↔ (z.cell? ⟨w.heap.size, 2, none⟩ = some (.int .i64 q.a_) ∧ z.cell? ⟨d, 4, none⟩ = some (.int .i64 p.arm)) := ⟨_, fun _ => Iff.rfl⟩
  have s2 : ∀ s : {z : World // C z}, s.1.cell? ⟨w.heap.size, 2, none⟩ = some (.int .i64 q.a_) := fun s => ((hCd s.1).1 s.2).1
  have s4 : ∀ s : {z : World // C z}, s.1.cell? ⟨d, 4, none⟩ = some (.int .i64 p.arm) := fun s => ((hCd s.1).1 s.2).2
  haveI : Nonempty {z : World // C z} := ⟨⟨W1, (hCd _).2 ⟨z2, c4⟩⟩⟩
  refine Mix.wp_region_mix C [23] (by kernel_rfl) (by kernel_rfl) ((hCd _).2 ⟨z2, c4⟩) ?_
  have HCD := Lib.hid hCd
  clear hCd
  repeat (refine Mix.mix_still rfl (fun K hK => ?_); go_simp; refine hK _ ?_; clear hK K)
  refine Mix.mix_eff rfl ?_
  go_wp2
  refine Mix.mix_nil ?_
  go_upto_region 11 with (fail)
  obtain ⟨W3, hW3⟩ : ∃ W3, W3 = ((W1.drewN (nq + 1)).setCell ⟨d, 5, none⟩ (.int .i64 G)).setCell ⟨d, 4, none⟩ (.int .i64 q.a_) := ⟨_, rfl⟩
  rw [← hW3]
  have hr3 : DRep B W3 d m { p with arm := q.a_, free := G } := by rw [hW3]; have := (HR1.out.put5 (nq + 1) G).put4 0 q.a_; rwa [World.drewN_zero] at this
  have gb3 : Box W3 w.heap.size q := by rw [hW3]; have := (GB1.out.put HNE.out (nq + 1) 5 (.int .i64 G)).put HNE.out 0 4 (.int .i64 q.a_); rwa [World.drewN_zero] at this
  have ht3 : Touch W1 W3 (· = d) := by rw [hW3]; exact ((Touch.drewN W1 (nq + 1) _).trans (Touch.setCell _ _ _ (S := (· = d)) rfl)).trans (Touch.setCell _ _ _ (S := (· = d)) rfl)
  clear z0 z1 z2 z3 z4 z5 z6 c0 c3 c4 c5 f4 f5 k1 k2 k3 k4 s2 s4
  obtain ⟨z0, z1, z2, z3, z4, z5, z6⟩ := gb3.all
  obtain ⟨c0, c3, c4, c5, f4, f5⟩ := hr3.all
  have hbf : decide (q.a_ ∈ p.bad) = false := by simpa using HBAD.out
  have C93 := Lib.hid (fun n => contains_any (W3.drewN n) B m.vd p.bad q.a_ hr3.hd HF.out.bad)
  rw [hbf] at C93
  have HR3 := Lib.hid hr3
  have GB3 := Lib.hid gb3
  have HT3 := Lib.hid ht3
  clear hr3 gb3 ht3 hW3 hbf
  rw [HQ.out] at z1
  rw [HD.out] at z4
  go_quiet (((refine (C93.out _).mono ?_); (intro e w' h; exact ⟨h.1, _, h.2⟩)))
  go_upto_region 15 with (fail)
  obtain ⟨W4, hW4⟩ : ∃ W4, W4 = W3.drewN nq := ⟨_, rfl⟩
  have hh4 : W4.heap = W3.heap := by rw [hW4]; rfl
  have hr4 : DRep B W4 d m { p with arm := q.a_, free := G } := HR3.out.keep fun k _ _ => by rw [hh4]
  have gb4 : Box W4 w.heap.size q := by unfold Box; rw [hh4]; exact GB3.out
  have ht4 : Touch w W4 (· = d) := ((((Touch.of_below HB.out).trans HT1.out).trans HT3.out).trans (by rw [hW4]; exact Touch.drewN _ _ _))
  have hd4 : Held B 5 W4 q.dv data := HDAT.out.keep fun k hk ho => ht4.block k hk fun e => by
    subst e
    rcases ho with ho | ⟨cur, ho⟩
    · have := HR.out.low; omega
    · rw [H.out.cells] at ho
      simp at ho
  rw [← hW4]
  clear z0 z1 z2 z3 z4 z5 z6 c0 c3 c4 c5 f4 f5
  obtain ⟨z0, z1, z2, z3, z4, z5, z6⟩ := gb4.all
  obtain ⟨c0, c3, c4, c5, f4, f5⟩ := hr4.all
  rw [HQ.out] at z1
  rw [HD.out] at z4
  have hvn := hr4.vbn
  have hsl : m.sb.length = p.blocks.length := hr4.hb.1
  have hidx : q.a_ < (m.vb.2.1 : Int) := by have := HL.out; have := HA.out; omega
  have hpos := HA.out
  have hk : q.a_.toNat < m.sb.length := by rw [hsl, ← hvn]; exact HL.out
  obtain ⟨g, cap, hv, hgB, _, _, cur, hg, hcs, _, hcc⟩ := own_cell hr4.rb (by omega)
  have hv1 : m.vb.1 = some ⟨g, 0, none⟩ := by injection hv
  have hog : (slv m.vb).ownBlock = some g := (congrArg Value.ownBlock hv).trans rfl
  rw [hv1] at c0
  have hcell : W4.cell? ⟨g, q.a_.toNat, none⟩ = some (slv m.sb[q.a_.toNat]) := by rw [hcc _ hk]; simp [hk]
  have hfr : W4.frozen? ⟨g, q.a_.toNat, none⟩ = false := free_of hg _
  have hgd : g ≠ d := fun e => hr4.own_ne.1 (by rw [hog, e])
  have hgb : g ≠ w.heap.size := fun e => by
    subst e
    have := gb4
    unfold Box at this
    rw [hg] at this
    simp at this
  have hgl := blt hg
  have C47 := Lib.hid (clone_bytes W4.drew W4.heap.size q.dv.1 q.dv.2.1 q.dv.2.2 data hd4.reads (Nat.le_refl _) hd4.2.1 (by rw [HD.out]; decide))
  rw [HD.out] at C47
  have HR4 := Lib.hid hr4
  have GB4 := Lib.hid gb4
  have HT4 := Lib.hid ht4
  have HD4 := Lib.hid hd4
  have HG4 := Lib.hid hg
  have HOG := Lib.hid hog
  have HK := Lib.hid hk
  have HGD := Lib.hid hgd
  have HGB := Lib.hid hgb
  have HIDX := Lib.hid hidx
  have HCS := Lib.hid hcs
  clear hh4 hr4 gb4 ht4 hd4 hW4 hsl hv hg hcs hcc hog hgd hgb hvn hgB C93
  obtain ⟨C, hCd⟩ : ∃ C : World → Prop, ∀ z, C z ↔ (z.cell? ⟨w.heap.size, 2, none⟩ = some (.int .i64 q.a_) ∧ z.cell? ⟨w.heap.size, 4, none⟩ = some (.slice q.dv.1 64 q.dv.2.2) ∧ z.cell? ⟨d, 0, none⟩ = some (.slice (some ⟨g, 0, none⟩) m.vb.2.1 m.vb.2.2)) := ⟨_, fun _ => Iff.rfl⟩
  have s0 := fun s : {z : World // C z} => ((hCd s.1).1 s.2).1
  have s1 := fun s : {z : World // C z} => ((hCd s.1).1 s.2).2.1
  have s2 := fun s : {z : World // C z} => ((hCd s.1).1 s.2).2.2
  have hC0 := (hCd W4.drew).2 ⟨z2, z4, c0⟩
  haveI : Nonempty {z : World // C z} := ⟨⟨W4.drew, hC0⟩⟩
  refine Mix.wp_region_mix C [10, 12] (by kernel_rfl) (by kernel_rfl) hC0 ?_
  have HCD := Lib.hid hCd
  clear hCd hC0 z0 z1 z3 z5 z6 c3 c4 c5 f4 f5
  repeat (refine Mix.mix_still rfl (fun K hK => ?_); go_simp; refine hK _ ?_; clear hK K)
  refine Mix.mix_eff rfl ?_
  go_wp2_with (go_at_call 47; (refine (C47.out).mono ?_); rintro e w5 ⟨v5, rfl, hb5, ho5⟩; (obtain ⟨nv, rfl, hnn, hnh⟩ := Held.of_own (B := B) ho5 HD4.out.2.1); have HB5 := Lib.hid (Below.mk (B := W4.heap.size) (w := W4) hb5.os hb5.tape hb5.output hb5.size hb5.block); have HN5 := Lib.hid hnh; clear hb5 ho5 hnh hnn)
  have hk5 : ∀ {a : Addr} {v : Value}, W4.cell? a = some v → w5.cell? a = some v := fun h => (HB5.out.cell (lt_of_cell h)).trans h
  refine ⟨(HCD.out _).2 ⟨hk5 z2, hk5 z4, hk5 c0⟩, ?_⟩
  have hg5 := (HB5.out.block g (blt HG4.out)).trans HG4.out
  have t5 : w5.cell? ⟨g, q.a_.toNat, none⟩ = some (slv m.sb[q.a_.toNat]) := hk5 hcell
  have f5 : w5.frozen? ⟨g, q.a_.toNat, none⟩ = false := free_of hg5 _
  have hr5 : DRep B w5 d m { p with arm := q.a_, free := G } := HR4.out.keep fun k hl _ => HB5.out.block k hl
  have gb5 : Box w5 w.heap.size q := (HB5.out.block _ (blt GB4.out)).trans GB4.out
  have HR5 := Lib.hid hr5
  have GB5 := Lib.hid gb5
  have y0 := HR5.out.own_ne
  clear hk5 hg5 hr5 gb5 z2 z4 c0 hcell hfr y0
  repeat (refine Mix.mix_still rfl (fun K hK => ?_); go_simp; refine hK _ ?_; clear hK K)
  refine Mix.mix_eff rfl ?_
  go_wp2_with fail
  refine Mix.mix_nil ?_
  go_upto_region 16 with (fail)
  obtain ⟨W6, hW6⟩ : ∃ W6, W6 = w5.setCell ⟨g, q.a_.toNat, none⟩ (.slice nv.1 nv.2.1 nv.2.2) := ⟨_, rfl⟩
  rw [← hW6]
  have hr6 : DRep B W6 d { m with sb := m.sb.set q.a_.toNat nv } { p with arm := q.a_, free := G, blocks := p.blocks.set q.a_.toNat data } := by rw [hW6]; exact HR5.out.putblk HOG.out HK.out HN5.out
  have gb6 : Box W6 w.heap.size q := by rw [hW6]; exact (Below.heap_setCell w5 _ _ _ (fun e => HGB.out (by have e : w.heap.size = g := e; exact e.symm))).trans GB5.out
  have hg5 := (HB5.out.block g (blt HG4.out)).trans HG4.out
  have hg6 : W6.heap[g]? = some (.cells (cur.setIfInBounds q.a_.toNat (slv nv)) 39 (0, 0)) := by rw [hW6]; exact set_same hg5 _ _
  have ht6 : Touch w W6 (fun k => k = d ∨ k = g) := by
    rw [hW6]
    exact ((HT4.out.mono fun k _ e => .inl e).trans (Touch.of_below HB5.out)).trans (Touch.setCell _ _ _ (S := fun k => k = d ∨ k = g) (.inr rfl))
  have hn6 : Held B 5 W6 nv data := HN5.out.keep fun k _ ho => by
    rw [hW6]
    refine Below.heap_setCell w5 _ _ _ fun e => ?_
    have e : k = g := e
    subst e
    rcases ho with ho | ⟨cur', ho⟩
    · have := (own_block HR5.out.rb HOG.out).1; omega
    · rw [hg5] at ho
      simp at ho
  obtain ⟨z0, z1, z2, z3, z4, z5, z6⟩ := gb6.all
  obtain ⟨c0, c3, c4, c5, f4, f5⟩ := hr6.all
  have c2 : W6.cell? ⟨d, 2, none⟩ = some (.slice m.vw.1 m.vw.2.1 m.vw.2.2) := (cell_of hr6.cells 2).trans rfl
  have x0 : W6.cell? ⟨g, q.a_.toNat, none⟩ = some (.slice nv.1 nv.2.1 nv.2.2) := by
    rw [cell_of hg6]
    have h1 := HCS.out
    have h2 : q.a_.toNat < cur.size := by
      have := HIDX.out; have := HA.out; have := own_cap_le HR4.out.rb HOG.out HG4.out
      omega
    simp [h2]
  rw [HQ.out] at z1
  rw [HD.out] at z4
  have c0 : W6.cell? ⟨d, 0, none⟩ = some (.slice (some ⟨g, 0, none⟩) m.vb.2.1 m.vb.2.2) := c0.trans (by show some (Value.slice m.vb.1 _ _) = _; rw [hv1])
  have hidx := HIDX.out
  have hpos := HA.out
  have HR6 := Lib.hid hr6
  have GB6 := Lib.hid gb6
  have HT6 := Lib.hid ht6
  have HN6 := Lib.hid hn6
  clear hr6 gb6 hg5 hg6 ht6 hn6 hW6
  obtain ⟨C, hCd⟩ : ∃ C : World → Prop, ∀ z, C z ↔ (z.cell? ⟨d, 2, none⟩ = some (.slice m.vw.1 m.vw.2.1 m.vw.2.2) ∧ z.cell? ⟨d, 5, none⟩ = some (.int .i64 G) ∧ z.cell? ⟨w.heap.size, 2, none⟩ = some (.int .i64 q.a_) ∧ z.cell? ⟨d, 0, none⟩ = some (.slice (some ⟨g, 0, none⟩) m.vb.2.1 m.vb.2.2) ∧ z.cell? ⟨g, q.a_.toNat, none⟩ = some (.slice nv.1 nv.2.1 nv.2.2)) := ⟨_, fun _ => Iff.rfl⟩
  have s0 := fun s : {z : World // C z} => ((hCd s.1).1 s.2).1
  have s1 := fun s : {z : World // C z} => ((hCd s.1).1 s.2).2.1
  have s2 := fun s : {z : World // C z} => ((hCd s.1).1 s.2).2.2.1
  have s3 := fun s : {z : World // C z} => ((hCd s.1).1 s.2).2.2.2.1
  have s4 := fun s : {z : World // C z} => ((hCd s.1).1 s.2).2.2.2.2
  have hC0 := (hCd W6.drew).2 ⟨c2, c5, z2, c0, x0⟩
  haveI : Nonempty {z : World // C z} := ⟨⟨W6.drew, hC0⟩⟩
  refine Mix.wp_region_mix C [22, 23, 26] (by kernel_rfl) (by kernel_rfl) hC0 ?_
  have HCD := Lib.hid hCd
  clear hCd hC0 z0 z1 z3 z4 z5 z6 c3 c4 f4 f5
  repeat (refine Mix.mix_still rfl (fun K hK => ?_); go_simp; refine hK _ ?_; clear hK K)
  refine Mix.mix_eff rfl ?_
  refine wpList_buildG _ rfl (.tmp 177) 104 116 rfl #[.int .i64 G, .int .i64 q.a_, .slice nv.1 nv.2.1 nv.2.2] rfl (buildG116 _ _ _ _) ?_
  obtain ⟨W7, hW7⟩ : ∃ W7, W7 = W6.drew.alloc (.cells #[.int .i64 G, .int .i64 q.a_, .slice nv.1 nv.2.1 nv.2.2] 116) := ⟨_, rfl⟩
  have hn7 : W7.heap[W6.heap.size]? = some (.cells #[.int .i64 G, .int .i64 q.a_, .slice nv.1 nv.2.1 nv.2.2] 116 (0, 0)) := by rw [hW7]; exact alloc_new W6.drew _
  have hb7 : Below W6.heap.size W6 W7 := by rw [hW7]; exact ((Below.refl W6.heap.size W6).drew).alloc (Nat.le_refl _) _
  have hk7 : ∀ {a : Addr} {v : Value}, W6.cell? a = some v → W7.cell? a = some v := fun hx => (hb7.cell (lt_of_cell hx)).trans hx
  rw [← hW7]
  refine wpList_nil ⟨rfl, .inr ((HCD.out W7).2 ⟨hk7 c2, hk7 c5, hk7 z2, hk7 c0, hk7 x0⟩), ?_⟩
  refine Mix.mix_eff rfl ?_
  obtain ⟨i0, hi, hz0, hz1, hz2⟩ := info_parts infoG116
  have hw7 : W7.ownsRow B 116 3 (slv m.vw) m.sw.length (m.sw.flatMap encW) := own_keep HR6.out.rw fun k _ hl => hb7.block k hl
  have hlo : B ≤ W7.heap.size := by
    have := HR6.out.low
    have := blt HR6.out.cells
    have := hb7.size
    omega
  have hswl : m.sw.length ≤ 100000 := by have := HR.out.hw.1; have := HWR.out; omega
  refine wpList_append_any _ rfl _ _ 104 rfl B 116 i0 (.agg #[.int .i64 0, .int .i64 0, .slice none 0 0]) 3 40 Try.underlying104 hi hz0 hz1 hz2 rfl (by decide) (slv m.vw) m.sw.length _ rfl hw7 W7.heap.size (some ⟨W6.heap.size, 0, none⟩) 1 1 (encW (G, q.a_, nv)) rfl ?rd ?one (by unfold maxLen; omega) (by omega) hlo ?_
  case rd => exact ⟨rfl, fun _ => ⟨_, rfl, blt hn7, fun i u hu => by rw [Addr.add_lit, Nat.zero_add, cell_of hn7]; simpa [encW] using hu⟩⟩
  case one =>
    intro u hu
    simp [encW] at hu
    rcases hu with rfl | rfl | rfl <;> rfl
  intro v' w8 hrow8 hgrow8 hloc8
  obtain ⟨A8, c8, rfl⟩ := own_form hrow8
  have hk8 : ∀ k, k < W6.heap.size → (slv m.vw).ownBlock ≠ some k → w8.heap[k]? = W6.heap[k]? := fun k hk hne => (hgrow8.block k (Nat.lt_of_lt_of_le hk hb7.size) (fun e => hne e.symm)).trans (hb7.block k hk)
  have hc8 : ∀ {k : Nat} {cu : Array Value} {ty : TypeId}, W6.heap[k]? = some (.cells cu ty (0, 0)) → ty ≠ 116 → w8.heap[k]? = some (.cells cu ty (0, 0)) := fun hc hty => (hk8 _ (blt hc) (own_ty HR6.out.rw hc hty)).trans hc
  have hd8 := hc8 HR6.out.cells (by decide)
  have q2 : w8.cell? ⟨d, 2, none⟩ = some (.slice m.vw.1 m.vw.2.1 m.vw.2.2) := (cell_of hd8 2).trans rfl
  have qf : w8.frozen? ⟨d, 2, none⟩ = false := free_of hd8 2
  have hcell8 : ∀ {k j : Nat} {v : Value} {cu : Array Value} {ty : TypeId}, W6.heap[k]? = some (.cells cu ty (0, 0)) → ty ≠ 116 → W6.cell? ⟨k, j, none⟩ = some v → w8.cell? ⟨k, j, none⟩ = some v := fun {k j v cu ty} hc hty hv => by
    rw [cell_of (hc8 hc hty)]
    rw [cell_of hc] at hv
    exact hv
  obtain ⟨_, curg, hgg⟩ := own_block HR6.out.rb HOG.out
  refine wpList_nil ⟨rfl, .inr ((HCD.out _).2 ⟨q2, hcell8 HR6.out.cells (by decide) c5, hcell8 GB6.out (by decide) z2, hcell8 HR6.out.cells (by decide) c0, hcell8 hgg (by decide) x0⟩), ?_⟩
  have HROW8 := Lib.hid hrow8
  have HK8 := Lib.hid hk8
  have HGR8 := Lib.hid hgrow8
  have HLOC8 := Lib.hid hloc8
  have HS9 := Lib.hid (show w.heap.size ≤ W7.heap.size from Nat.le_trans HT6.out.size hb7.size)
  have HB7 := Lib.hid hb7
  have GB8 : RowKit.Hid (Box w8 w.heap.size q) := Lib.hid (hc8 GB6.out (by decide))
  clear hrow8 hgrow8 hloc8 hk8 hc8 hd8 hcell8 hgg hw7 hn7 hb7 hk7 hW7 hlo hswl hi hz0 hz1 hz2 c2 c5 z2 c0 x0
  repeat (refine Mix.mix_still rfl (fun K hK => ?_); go_simp; refine hK _ ?_; clear hK K)
  refine Mix.mix_eff rfl ?_
  go_wp2_with fail
  refine Mix.mix_nil ?_
  go_upto_region 17 with (fail)
  obtain ⟨W9, hW9⟩ : ∃ W9, W9 = w8.setCell ⟨d, 2, none⟩ (.slice A8 (m.sw.length + 1) c8) := ⟨_, rfl⟩
  rw [← hW9]
  have hr9 := HR6.out.addw (v' := (A8, m.sw.length + 1, c8)) (x := (G, q.a_, nv)) HROW8.out HK8.out HN6.out
  rw [show slv (A8, m.sw.length + 1, c8) = .slice A8 (m.sw.length + 1) c8 from rfl, ← hW9] at hr9
  have gb9 : Box W9 w.heap.size q := by rw [hW9]; exact (Below.heap_setCell w8 _ _ _ HNE.out).trans GB8.out
  have ht9 : Touch w W9 (OwnD d m) := by
    rw [hW9]
    refine Touch.trans ?_ (Touch.setCell _ _ _ (S := OwnD d m) (.inl rfl))
    refine Touch.andThen (Touch.andThen (HT6.out.mono fun k _ e => ?_) (Touch.of_below HB7.out (S := fun _ => False)) fun _ _ e => e.elim) (Touch.grown HGR8.out) fun k _ e => .inr (.inr (.inr e.symm))
    rcases e with rfl | rfl
    · exact .inl rfl
    · exact .inr (.inl HOG.out)
  have hB9 : B ≤ W9.heap.size := by
    have := hr9.low
    have := blt hr9.cells
    omega
  obtain ⟨z0, z1, z2, z3, z4, z5, z6⟩ := gb9.all
  obtain ⟨c0, c3, c4, c5, f4, f5⟩ := hr9.all
  rw [HQ.out] at z1
  rw [HD.out] at z4
  have hbox : (encQ q).toArray = #[.int .i64 q.pk, .int .i64 2, .int .i64 q.a_, .int .i64 q.b_, .slice q.dv.1 64 q.dv.2.2, .int .i64 q.at_, .int .i64 q.ord] := by
    unfold encQ
    rw [HQ.out]
    simp only [slv, HD.out]
  have C91 := Lib.hid (answer_any W9.drew B q G 0 (none, 0, 0) [] Held.nil_ hB9 (by simp))
  rw [hbox] at C91
  unfold encR at C91
  have HR9 := Lib.hid hr9
  have HT9 := Lib.hid ht9
  clear hr9 gb9 ht9 hW9 hB9 hbox q2 qf
  obtain ⟨C, hCd⟩ : ∃ C : World → Prop, ∀ z, C z ↔ (z.cell? ⟨w.heap.size, 0, none⟩ = some (.int .i64 q.pk) ∧ z.cell? ⟨w.heap.size, 1, none⟩ = some (.int .i64 2) ∧ z.cell? ⟨w.heap.size, 2, none⟩ = some (.int .i64 q.a_) ∧ z.cell? ⟨w.heap.size, 3, none⟩ = some (.int .i64 q.b_) ∧ z.cell? ⟨w.heap.size, 4, none⟩ = some (.slice q.dv.1 64 q.dv.2.2) ∧ z.cell? ⟨w.heap.size, 5, none⟩ = some (.int .i64 q.at_) ∧ z.cell? ⟨w.heap.size, 6, none⟩ = some (.int .i64 q.ord) ∧ z.cell? ⟨d, 5, none⟩ = some (.int .i64 G)) := ⟨_, fun _ => Iff.rfl⟩
  have s0 := fun s : {z : World // C z} => ((hCd s.1).1 s.2).1
  have s1 := fun s : {z : World // C z} => ((hCd s.1).1 s.2).2.1
  have s2 := fun s : {z : World // C z} => ((hCd s.1).1 s.2).2.2.1
  have s3 := fun s : {z : World // C z} => ((hCd s.1).1 s.2).2.2.2.1
  have s4 := fun s : {z : World // C z} => ((hCd s.1).1 s.2).2.2.2.2.1
  have s5 := fun s : {z : World // C z} => ((hCd s.1).1 s.2).2.2.2.2.2.1
  have s6 := fun s : {z : World // C z} => ((hCd s.1).1 s.2).2.2.2.2.2.2.1
  have s7 := fun s : {z : World // C z} => ((hCd s.1).1 s.2).2.2.2.2.2.2.2
  have hC0 := (hCd W9.drew).2 ⟨z0, z1, z2, z3, z4, z5, z6, c5⟩
  haveI : Nonempty {z : World // C z} := ⟨⟨W9.drew, hC0⟩⟩
  refine Mix.wp_region_mix C [5, 6] (by kernel_rfl) (by kernel_rfl) hC0 ?_
  have HCD := Lib.hid hCd
  have HC0 := Lib.hid hC0
  clear hCd hC0 z0 z1 z2 z3 z4 z5 z6 c0 c3 c4 c5 f4 f5
  repeat (refine Mix.mix_still rfl (fun K hK => ?_); go_simp; refine hK _ ?_; clear hK K)
  refine Mix.mix_eff rfl ?_
  go_wp2_with (go_at_call 91; (refine (C91.out).mono ?_); rintro e w10 ⟨dv, rfl, hb5, hd5⟩; have HB10 := Lib.hid (Below.mk (B := W9.heap.size) (w := W9) hb5.os hb5.tape hb5.output hb5.size hb5.block); have HD10 := Lib.hid hd5; clear hb5 hd5)
  have hk5 : ∀ {a : Addr} {v : Value}, W9.drew.cell? a = some v → w10.cell? a = some v := fun h => (HB10.out.cell (lt_of_cell h)).trans h
  obtain ⟨y0, y1, y2, y3, y4, y5, y6, y7⟩ := (HCD.out _).1 HC0.out
  refine ⟨(HCD.out _).2 ⟨hk5 y0, hk5 y1, hk5 y2, hk5 y3, hk5 y4, hk5 y5, hk5 y6, hk5 y7⟩, ?_⟩
  refine Mix.mix_eff rfl ?_
  go_wp2
  refine ⟨(HCD.out _).2 ⟨Lib.cell?_alloc_some _ (hk5 y0), Lib.cell?_alloc_some _ (hk5 y1), Lib.cell?_alloc_some _ (hk5 y2), Lib.cell?_alloc_some _ (hk5 y3), Lib.cell?_alloc_some _ (hk5 y4), Lib.cell?_alloc_some _ (hk5 y5), Lib.cell?_alloc_some _ (hk5 y6), Lib.cell?_alloc_some _ (hk5 y7)⟩, ?_⟩
  clear hk5 y0 y1 y2 y3 y4 y5 y6 y7
  repeat (refine Mix.mix_still rfl (fun K hK => ?_); go_simp; refine hK _ ?_; clear hK K)
  refine Mix.mix_nil ?_
  go_wp2
  go_ret
  have ht5 : Touch w w10 (OwnD d m) := HT9.out.trans (Touch.of_below HB10.out)
  have ht6 := ht5.trans (Touch.alloc w10 (.cells #[.int .i64 q.pk, .int .i64 G, .int .i64 0, slv dv, .int .i64 0, .int .i64 q.ord] 95) (OwnD d m))
  rw [← HG.out]
  refine ⟨One.mk5 ht5.size HD10.out, ⟨_, HR9.out.keep fun k hl _ => ?_, fun k hk => ?_⟩, ht6⟩
  · rw [Below.heap_alloc _ _ _ (Nat.lt_of_lt_of_le hl HB10.out.size)]
    exact HB10.out.block k hl
  · rcases hk with hk | hk | hk | hk
    · exact .inl (.inl hk)
    · exact .inl (.inr (.inl hk))
    · exact .inl (.inr (.inr (.inl hk)))
    · rcases HLOC8.out with e | e
      · exact .inl (.inr (.inr (.inr (e.symm.trans hk))))
      · right
        have : some W7.heap.size = some k := e.symm.trans hk
        injection this with this
        rw [← this]
        exact HS9.out
end Go.Proofs.Ytkdnkjjnmadhgaa.Dev

/-! A disk does any request. -/
namespace Go.Proofs.Ytkdnkjjnmadhgaa.Dev
open Go.RowKit Go.Maps

/-- What a disk does: the disk behind it, the reply's time, its result, its bytes. -/
def diskF (p : PD) (q : Rq) (data : List Value) : PD × Int × Int × List Value :=
  if q.do_ = 3 then ({ p with free := max q.at_ p.free }, max q.at_ p.free, (p.blocks.length : Int), [])
  else if q.a_ < 0 ∨ (p.blocks.length : Int) ≤ q.a_ then ({ p with free := max q.at_ p.free }, max q.at_ p.free, -1, [])
  else if (q.do_ = 1 ∧ 0 < data.length) ∨ (q.do_ = 2 ∧ data.length ≠ 64) then ({ p with free := max q.at_ p.free }, max q.at_ p.free, -3, [])
  else if q.a_ ∈ p.bad then ({ p with arm := q.a_, free := moveF p q }, moveF p q, -200, [])
  else if q.do_ = 1 then ({ p with arm := q.a_, free := moveF p q }, moveF p q, 0, p.blocks.getD q.a_.toNat [])
  else ({ p with arm := q.a_, free := moveF p q, blocks := p.blocks.set q.a_.toNat data, writes := p.writes ++ [(moveF p q, q.a_, data)] }, moveF p q, 0, [])

theorem disk_send (w : World) (B d : Nat) (m : DM) (p : PD) (q : Rq) (h : DRep B w d m p) (hf : DFit p q) (hdo : 1 ≤ q.do_ ∧ q.do_ ≤ 3) (data : List Value) (hdat : Held B 5 w q.dv data) (hwr : p.writes.length ≤ 100000) :
    Calls Try.prog 90 #[ptr d, .agg (encQ q).toArray] w fun e w' => One B w q (diskF p q data).2.1 (diskF p q data).2.2.1 (diskF p q data).2.2.2 e w' ∧ (∃ m', DRep B w' d m' (diskF p q data).1 ∧ ∀ k, OwnD d m' k → OwnD d m k ∨ w.heap.size ≤ k) ∧ Touch w w' (OwnD d m) := by
  have hlen : data.length = q.dv.2.1 := hdat.1
  have up : ∀ {p' : PD} {t r : Int} {xs : List Value} {e : Ending} {w' : World}, (One B w q t r xs e w' ∧ DRep B w' d m p' ∧ Touch w w' (· = d)) → One B w q t r xs e w' ∧ (∃ m', DRep B w' d m' p' ∧ ∀ k, OwnD d m' k → OwnD d m k ∨ w.heap.size ≤ k) ∧ Touch w w' (OwnD d m) := fun hh => ⟨hh.1, ⟨m, hh.2.1, fun k hk => .inl hk⟩, hh.2.2.mono fun k _ e => .inl e⟩
  unfold diskF
  by_cases h3 : q.do_ = 3
  · simp only [if_pos h3]
    exact (send_blocks w B d m p q h hf h3).mono fun e w' hh => up hh
  · simp only [if_neg h3]
    have hd12 : q.do_ = 1 ∨ q.do_ = 2 := by omega
    by_cases hr : q.a_ < 0 ∨ (p.blocks.length : Int) ≤ q.a_
    · simp only [if_pos hr]
      rcases hd12 with h1 | h1
      · exact (send_range_r w B d m p q h hf h1 hr).mono fun e w' hh => up hh
      · exact (send_range_w w B d m p q h hf h1 hr).mono fun e w' hh => up hh
    · simp only [if_neg hr]
      have ha : 0 ≤ q.a_ := by omega
      have ha2 : q.a_ < (p.blocks.length : Int) := by omega
      by_cases hb : (q.do_ = 1 ∧ 0 < data.length) ∨ (q.do_ = 2 ∧ data.length ≠ 64)
      · simp only [if_pos hb]
        rcases hb with ⟨h1, hl⟩ | ⟨h1, hl⟩
        · exact (send_form_r w B d m p q h hf h1 ha ha2 (by omega)).mono fun e w' hh => up hh
        · exact (send_form_w w B d m p q h hf h1 ha ha2 (by omega)).mono fun e w' hh => up hh
      · simp only [if_neg hb]
        by_cases hbad : q.a_ ∈ p.bad
        · simp only [if_pos hbad]
          rcases hd12 with h1 | h1
          · exact (send_bad_r w B d m p q h hf h1 ha ha2 (by omega) hbad).mono fun e w' hh => up hh
          · exact (send_bad_w w B d m p q h hf h1 ha ha2 (by omega) hbad).mono fun e w' hh => up hh
        · simp only [if_neg hbad]
          by_cases h1 : q.do_ = 1
          · simp only [if_pos h1]
            have hx : p.blocks[q.a_.toNat]? = some (p.blocks.getD q.a_.toNat []) := by
              have : q.a_.toNat < p.blocks.length := by omega
              simp [this]
            exact (send_read w B d m p q h hf h1 ha _ hx (by omega) hbad).mono fun e w' hh => up hh
          · simp only [if_neg h1]
            exact send_write w B d m p q h hf (by omega) ha ha2 (by omega) hbad data hdat hwr
end Go.Proofs.Ytkdnkjjnmadhgaa.Dev
