import Derived.Test.YtkmgbnklfnjfjaaKQ
/-! Contracts: create. -/
namespace Go.Proofs.Ytkmgbnklfnjfjaa.Ker
open Go.RowKit Go.Maps
open Go.ChangeMaps (setBlock)
/-- What create does. -/
def createA (a : A) (x y : Int) : A := { a with tids := a.tids ++ [x], tk := upd a.tk x { pri := y, held := false, waiting := false, forr := 0, flags := 0 }, q := upd a.q x [] }
set_option maxHeartbeats 2000000 in
set_option maxRecDepth 100000 in
theorem create_range0 (B kb : Nat) (g : G) (a : A) (w : World) (h : KRep B kb g a w) (cb : Nat) (x y : Int) (v : Value) (hc : callAt w cb kb v x y) (hr : (x < 1)) :
    Calls Try.prog 40 #[ptr cb] w (Gives B kb w 0 1 a) := by
  have c0 := hc.c0
  have c2 := hc.c2
  have c3 := hc.c3
  have k0 := h.k0
  have H := Lib.hid h
  have HC := Lib.hid hc
  have hd0 : decide (x < 1) = true := by simp; omega
  clear h hc hr
  go_enter Try.func40, Try.ntmps40
  go_wp2
  go_ret2
  exact Gives.same H.out 0 1 0 rfl
set_option maxHeartbeats 2000000 in
set_option maxRecDepth 100000 in
theorem create_range1 (B kb : Nat) (g : G) (a : A) (w : World) (h : KRep B kb g a w) (cb : Nat) (x y : Int) (v : Value) (hc : callAt w cb kb v x y) (hr : ¬ (x < 1) ∧ (20 < x)) :
    Calls Try.prog 40 #[ptr cb] w (Gives B kb w 0 1 a) := by
  have c0 := hc.c0
  have c2 := hc.c2
  have c3 := hc.c3
  have k0 := h.k0
  have H := Lib.hid h
  have HC := Lib.hid hc
  have hd0 : decide (x < 1) = false := by simp; omega
  have hd1 : decide (20 < x) = true := by simp; omega
  clear h hc hr
  go_enter Try.func40, Try.ntmps40
  go_wp2
  go_ret2
  exact Gives.same H.out 0 1 0 rfl
set_option maxHeartbeats 2000000 in
set_option maxRecDepth 100000 in
theorem create_range2 (B kb : Nat) (g : G) (a : A) (w : World) (h : KRep B kb g a w) (cb : Nat) (x y : Int) (v : Value) (hc : callAt w cb kb v x y) (hr : ¬ (x < 1) ∧ ¬ (20 < x) ∧ (y < 1)) :
    Calls Try.prog 40 #[ptr cb] w (Gives B kb w 0 1 a) := by
  have c0 := hc.c0
  have c2 := hc.c2
  have c3 := hc.c3
  have k0 := h.k0
  have H := Lib.hid h
  have HC := Lib.hid hc
  have hd0 : decide (x < 1) = false := by simp; omega
  have hd1 : decide (20 < x) = false := by simp; omega
  have hd2 : decide (y < 1) = true := by simp; omega
  clear h hc hr
  go_enter Try.func40, Try.ntmps40
  go_wp2
  go_ret2
  exact Gives.same H.out 0 1 0 rfl
set_option maxHeartbeats 2000000 in
set_option maxRecDepth 100000 in
theorem create_range3 (B kb : Nat) (g : G) (a : A) (w : World) (h : KRep B kb g a w) (cb : Nat) (x y : Int) (v : Value) (hc : callAt w cb kb v x y) (hr : ¬ (x < 1) ∧ ¬ (20 < x) ∧ ¬ (y < 1) ∧ (1000 < y)) :
    Calls Try.prog 40 #[ptr cb] w (Gives B kb w 0 1 a) := by
  have c0 := hc.c0
  have c2 := hc.c2
  have c3 := hc.c3
  have k0 := h.k0
  have H := Lib.hid h
  have HC := Lib.hid hc
  have hd0 : decide (x < 1) = false := by simp; omega
  have hd1 : decide (20 < x) = false := by simp; omega
  have hd2 : decide (y < 1) = false := by simp; omega
  have hd3 : decide (1000 < y) = true := by simp; omega
  clear h hc hr
  go_enter Try.func40, Try.ntmps40
  go_wp2
  go_ret2
  exact Gives.same H.out 0 1 0 rfl
set_option maxHeartbeats 2000000 in
set_option maxRecDepth 100000 in
theorem create_dup (B kb : Nat) (g : G) (a : A) (w : World) (h : KRep B kb g a w) (cb : Nat) (x y : Int) (v : Value) (hc : callAt w cb kb v x y) (hr : 1 ≤ x ∧ x ≤ 20 ∧ 1 ≤ y ∧ y ≤ 1000) (hx : x ∈ a.tids) :
    Calls Try.prog 40 #[ptr cb] w (Gives B kb w 0 6 a) := by
  have c0 := hc.c0
  have c2 := hc.c2
  have c3 := hc.c3
  have k0 := h.k0
  have H := Lib.hid h
  have HC := Lib.hid hc
  have hd0 : decide (x < 1) = false := by simp; omega
  have hd1 : decide (20 < x) = false := by simp; omega
  have hd2 : decide (y < 1) = false := by simp; omega
  have hd3 : decide (1000 < y) = false := by simp; omega
  have hl : ∀ n, (Instr.lookup 66 (.map (some g.tm)) (.int .i64 x) false).run Try.prog (w.drewN n) = .ok (ptr (g.tb x)) (w.drewN n) := fun n => by
    have := (h.keep (w' := w.drewN n) (fun _ _ => rfl)).lookT x
    rwa [if_pos hx] at this
  clear h hc hr hx
  go_enter Try.func40, Try.ntmps40
  go_wp2
  go_quiet (fail)
  go_wp2
  go_ret2
  exact Gives.same H.out 0 6 _ rfl
set_option maxHeartbeats 2000000 in
set_option maxRecDepth 100000 in
theorem create_twice (B kb : Nat) (g : G) (a : A) (w : World) (h : KRep B kb g a w) (cb : Nat) (x y : Int) (v : Value) (hc : callAt w cb kb v x y) (hr : 1 ≤ x ∧ x ≤ 20 ∧ 1 ≤ y ∧ y ≤ 1000) (htn : a.tids.Nodup) (hx : x ∉ a.tids) (htk : takenA a y 0 = true) :
    Calls Try.prog 40 #[ptr cb] w (Gives B kb w 0 6 a) := by
  have c0 := hc.c0
  have c2 := hc.c2
  have c3 := hc.c3
  have k0 := h.k0
  have H := Lib.hid h
  have HC := Lib.hid hc
  have hd0 : decide (x < 1) = false := by simp; omega
  have hd1 : decide (20 < x) = false := by simp; omega
  have hd2 : decide (y < 1) = false := by simp; omega
  have hd3 : decide (1000 < y) = false := by simp; omega
  have he := fun z : Xt => h.below (ext_below w z)
  have ec := fun z : Xt => (show callAt (ext w z) cb kb v x y from ((ext_below w z).block _ (blt hc)).trans hc)
  have e0 := fun z : Xt => (ec z).c0
  have e2 := fun z : Xt => (ec z).c2
  have e3 := fun z : Xt => (ec z).c3
  have ek := fun z : Xt => (he z).k0
  have hl : ∀ z : Xt, (Instr.lookup 66 (.map (some g.tm)) (.int .i64 x) false).run Try.prog (ext w z) = .ok (.pointer none) (ext w z) := fun z => by
    have := (he z).lookT x
    rwa [if_neg hx] at this
  have HE := Lib.hid he
  have HEC := Lib.hid ec
  have HTK := Lib.hid htk
  have HTN := Lib.hid htn
  have HX := Lib.hid hx
  have HR := Lib.hid hr
  clear h hc hr hx he htk htn ec
  go_enter Try.func40, Try.ntmps40
  go_wp2
  refine wp_region_ext (by kernel_rfl) (by kernel_rfl) ?_
  repeat (quiet_step (((refine (taken_any B kb g a _ (HE.out _) HTN.out y 0).mono ?_); (intro e w' hh; rw [HTK.out] at hh; exact ⟨hh.1, ext_of hh.2⟩))))
  refine wpQuiet_nil ?_
  rintro _ ⟨z, rfl⟩
  go_wp2
  go_ret2
  have hl : B ≤ w.heap.size := Nat.le_of_lt (Nat.lt_of_le_of_lt H.out.low.1 (blt H.out.ker))
  exact ⟨rfl, (ext_below w z).bel hl H.out.klt, g, HE.out z⟩
set_option maxHeartbeats 2000000 in
set_option maxRecDepth 100000 in
theorem create_ok (B kb : Nat) (g : G) (a : A) (w : World) (h : KRep B kb g a w) (cb : Nat) (x y : Int) (v : Value) (hc : callAt w cb kb v x y) (hr : 1 ≤ x ∧ x ≤ 20 ∧ 1 ≤ y ∧ y ≤ 1000) (htn : a.tids.Nodup) (hx : x ∉ a.tids) (htk : takenA a y 0 = false) :
    Calls Try.prog 40 #[ptr cb] w (Gives B kb w 0 0 (createA a x y)) := by
  have c0 := hc.c0
  have c2 := hc.c2
  have c3 := hc.c3
  have k0 := h.k0
  have H := Lib.hid h
  have HC := Lib.hid hc
  have hd0 : decide (x < 1) = false := by simp; omega
  have hd1 : decide (20 < x) = false := by simp; omega
  have hd2 : decide (y < 1) = false := by simp; omega
  have hd3 : decide (1000 < y) = false := by simp; omega
  have he := fun z : Xt => h.below (ext_below w z)
  have ec := fun z : Xt => (show callAt (ext w z) cb kb v x y from ((ext_below w z).block _ (blt hc)).trans hc)
  have e0 := fun z : Xt => (ec z).c0
  have e2 := fun z : Xt => (ec z).c2
  have e3 := fun z : Xt => (ec z).c3
  have ek := fun z : Xt => (he z).k0
  have hl : ∀ z : Xt, (Instr.lookup 66 (.map (some g.tm)) (.int .i64 x) false).run Try.prog (ext w z) = .ok (.pointer none) (ext w z) := fun z => by
    have := (he z).lookT x
    rwa [if_neg hx] at this
  have HE := Lib.hid he
  have HEC := Lib.hid ec
  have HTK := Lib.hid htk
  have HTN := Lib.hid htn
  have HX := Lib.hid hx
  have HR := Lib.hid hr
  clear h hc hr hx he htk htn ec
  go_enter Try.func40, Try.ntmps40
  go_wp2
  refine wp_region_ext (by kernel_rfl) (by kernel_rfl) ?_
  repeat (quiet_step (((refine (taken_any B kb g a _ (HE.out _) HTN.out y 0).mono ?_); (intro e w' hh; rw [HTK.out] at hh; exact ⟨hh.1, ext_of hh.2⟩))))
  refine wpQuiet_nil ?_
  rintro _ ⟨z, rfl⟩
  obtain ⟨W, hW⟩ : ∃ W, W = ext w z := ⟨_, rfl⟩
  have hw := HE.out z
  have hc1 := HEC.out z
  have hb1 := ext_below w z
  rw [← hW] at hw hc1 hb1 ⊢
  have HW := Lib.hid hw
  have HC1 := Lib.hid hc1
  have HB1 := Lib.hid hb1
  clear hW e0 e2 e3 ek hl c0 c2 c3 k0
  have c0 := hc1.c0
  have c2 := hc1.c2
  have c3 := hc1.c3
  have k0 := hw.k0
  clear hw hc1 hb1
  go_wp2
  obtain ⟨C, hCd⟩ : ∃ C : World → Prop, ∀ z, C z ↔ (z.cell? ⟨cb, 0, none⟩ = some (ptr kb) ∧ z.cell? ⟨cb, 2, none⟩ = some (.int .i64 x) ∧ z.cell? ⟨cb, 3, none⟩ = some (.int .i64 y) ∧ z.cell? ⟨kb, 0, none⟩ = some (.map (some g.tm))) := ⟨_, fun _ => Iff.rfl⟩
  have s0 : ∀ s : {z : World // C z}, s.1.cell? ⟨cb, 0, none⟩ = some (ptr kb) := fun s => ((hCd s.1).1 s.2).1
  have s1 : ∀ s : {z : World // C z}, s.1.cell? ⟨cb, 2, none⟩ = some (.int .i64 x) := fun s => ((hCd s.1).1 s.2).2.1
  have s2 : ∀ s : {z : World // C z}, s.1.cell? ⟨cb, 3, none⟩ = some (.int .i64 y) := fun s => ((hCd s.1).1 s.2).2.2.1
  have s3 : ∀ s : {z : World // C z}, s.1.cell? ⟨kb, 0, none⟩ = some (.map (some g.tm)) := fun s => ((hCd s.1).1 s.2).2.2.2
  haveI : Nonempty {z : World // C z} := ⟨⟨W, (hCd _).2 ⟨c0, c2, c3, k0⟩⟩⟩
  refine Mix.wp_region_mix C [21, 22] (by kernel_rfl) (by kernel_rfl) ((hCd _).2 ⟨c0, c2, c3, k0⟩) ?_
  have HCD := Lib.hid hCd
  clear hCd
  repeat (refine Mix.mix_still rfl (fun K hK => ?_); go_simp; refine hK _ ?_; clear hK K)
  refine Mix.mix_eff rfl ?_
  go_wp2
  refine ⟨(HCD.out _).2 ⟨Lib.cell?_alloc_some (W := W) _ c0, Lib.cell?_alloc_some (W := W) _ c2, Lib.cell?_alloc_some (W := W) _ c3, Lib.cell?_alloc_some (W := W) _ k0⟩, ?_⟩
  refine Mix.mix_eff rfl ?_
  have hni : look (a.tids.map fun i => (i, g.tb i)) x = none := by rw [look_map, if_neg HX.out]
  refine wpList_put rfl _ _ _ 66 71 rfl und66 rfl rfl rfl ((HW.out.keep (w' := W.drew.alloc _) (fun k hk => Below.heap_alloc W.drew _ _ hk)).tmap) hni ?_
  intro o' hmap
  go_wp2
  refine Mix.mix_nil ?_
  obtain ⟨W5, hW5⟩ : ∃ W5, W5 = setBlock (W.alloc (.cells #[.int .i64 x, .int .i64 y, .bool false, .bool false, .int .i64 0, .int .i64 0, .slice none 0 0, .slice none 0 0] 76)).drew g.tm o' := ⟨_, rfl⟩
  rw [← hW5] at hmap ⊢
  have hpl := HW.out.tmap.lt
  have hT5 : Touch W W5 (fun k => k = g.tm) := by
    rw [hW5]
    exact ((Touch.alloc W _ _).trans (Touch.drew _ _)).trans (Touch.setB _ _ _)
  have hnb : W5.heap[W.heap.size]? = some (.cells #[.int .i64 x, .int .i64 y, .bool false, .bool false, .int .i64 0, .int .i64 0, .slice none 0 0, .slice none 0 0] 76 (0, 0)) := by
    rw [hW5, setB_other (Nat.ne_of_gt hpl)]
    exact alloc_new W _
  have hB : B ≤ W.heap.size := Nat.le_of_lt (Nat.lt_of_le_of_lt HW.out.low.1 (blt HW.out.ker))
  have hB0 : B ≤ w.heap.size := Nat.le_of_lt (Nat.lt_of_le_of_lt H.out.low.1 (blt H.out.ker))
  have h5 := HW.out.insTask (w' := W5) x W.heap.size { pri := y, held := false, waiting := false, forr := 0, flags := 0 } HX.out (by have := HR.out.1; omega) (Nat.le_refl _) hB hT5 hmap (by simpa [tcells] using hnb)
  have H5 := Lib.hid h5
  have HB5 := Lib.hid ((HB1.out.bel hB0 H.out.klt).trans (hT5.bel hB (fun k hk => by rw [hk]; exact HW.out.okTM) HW.out.klt))
  clear hW5 hmap hT5 hnb h5 s0 s1 s2 s3 c0 c2 c3 k0
  go_wp2
  go_ret2
  exact ⟨rfl, HB5.out, _, H5.out⟩
end Go.Proofs.Ytkmgbnklfnjfjaa.Ker
